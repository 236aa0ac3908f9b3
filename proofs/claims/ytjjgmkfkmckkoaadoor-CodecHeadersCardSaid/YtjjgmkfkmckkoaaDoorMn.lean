/- Texts joined: CgJ CsC CsP CsO. -/
import Derived.Test.YtjjgmkfkmckkoaaDoorMb
import Derived.Test.YtjjgmkfkmckkoaaDoorMh
import Derived.Test.YtjjgmkfkmckkoaaDoorMc
import Derived.Test.YtjjgmkfkmckkoaaDoorMd
import Derived.Test.YtjjgmkfkmckkoaaDoorMa
import Derived.Laws.BitsAllLaws
import Derived.DeepKeys
/- Codec: face[Header], ReadHeader. -/
namespace Go.Proofs.YtjjgmkfkmckkoaaDoor
open Go.RowKit Go.Maps
attribute [-simp] Tryd.isAgg23 Tryd.typeInfo23 Tryd.isAgg25 Tryd.typeInfo25

def zFHeader : List Value := ([.int .i64 0, .int .i64 0, .int .i64 0, .int .i64 0] ++ List.replicate 96 (.int .u8 0) ++ [.int .i64 0] : List Value)
theorem one_faceHeader : ∀ v ∈ zFHeader, v.oneCell' = true := by decide
theorem len_faceHeader : zFHeader.length = 101 := by decide
theorem size_faceHeader : (Tryd.prog.info? 25).map (·.size) = some zFHeader.length := by kernel_rfl
set_option maxHeartbeats 8000000 in
set_option maxRecDepth 100000 in
theorem faceHeader_any (w : World) {S : Nat → Prop} {v sent : Value} {bs : List UInt8} (h : Bs w S v bs) (hp : Pk w sent) :
    Calls Tryd.prog 58 #[v, .func (Fn.func 59) #[] #[]] w (FaceOut tHeader w bs) := by
  obtain ⟨A, cap, rfl⟩ := h.form
  have hal1 := (Below.refl w.heap.size w).alloc (Nat.le_refl _) (.cells (zFHeader).toArray 25)
  have hal2 := hal1.alloc (by simp) (.cells (zFHeader).toArray 25)
  have hr0 := (Blk.new w 25 (zFHeader).toArray).alloc (.cells (zFHeader).toArray 25)
  have hz0 := Blk.new (w.alloc (.cells (zFHeader).toArray 25)) 25 (zFHeader).toArray
  rw [show (w.alloc (.cells (zFHeader).toArray 25)).heap.size = w.heap.size + 1 by simp] at hz0
  by_cases hbig : 262144 < bs.length
  · obtain ⟨sb, hsb⟩ : ∃ sb, w.cell? ⟨0, 0, none⟩ = some (.iface 205 (.pointer (some sb))) := by
      obtain ⟨_, _, b, _, _, _, _, _, _, _, _, h, _⟩ := hp
      exact ⟨b, h⟩
    have hgb : ∀ {W : World}, Below w.heap.size w W → W.cell? ⟨0, 0, none⟩ = some (.iface 205 (.pointer (some sb))) := fun hb => cell_low hsb hb
    clear h
    go_enter Tryd.func58, Tryd.ntmps58
    go_wp2_with fail
    have hb := hal2.drew
    have hr : Blk _ _ _ _ := hr0.drew
    have hz : Blk _ _ _ _ := hz0.drew
    clear hal1 hal2 hz0 hsb
    refine wp_region_hoist [0, 1, 2] [3, 4, 5] [6, 7] (fun w' => Blk w' (w.heap.size + 1) 25 (zFHeader).toArray ∧ w'.cell? ⟨0, 0, none⟩ = some (.iface 205 (.pointer (some sb)))) (by kernel_rfl) (by kernel_rfl) (by kernel_rfl) (by kernel_rfl) (by kernel_rfl) (by kernel_rfl) ⟨hz, hgb hb⟩ ?_
    (refine HoistK.load (by rfl) (by kernel_rfl) 25 _ rfl (w.heap.size + 1) 0 rfl zFHeader _ (fun w' hw => hw.1.range) Tryd.underlying25 rfl size_faceHeader ?_; simp only [Act.put, List.setIfInBounds_toArray, List.getElem_toArray, List.getElem_cons_zero, List.set_cons_succ, List.set_cons_zero])
    (refine HoistK.yes (by rfl) (by kernel_rfl) ⟨?_, fun w' hSw => ?_, ?_⟩; rotate_left; (· have hcc := hSw.2; go_simp; try with_reducible rfl); simp only [Act.put, List.setIfInBounds_toArray, List.getElem_toArray, List.getElem_cons_succ, List.getElem_cons_zero, List.set_cons_succ, List.set_cons_zero])
    (refine HoistK.yes (by rfl) (by kernel_rfl) ⟨?_, fun w' hSw => ?_, ?_⟩; rotate_left; (· go_simp; try with_reducible rfl); simp only [Act.put, List.setIfInBounds_toArray, List.getElem_toArray, List.getElem_cons_succ, List.getElem_cons_zero, List.set_cons_succ, List.set_cons_zero])
    refine HoistK.nil_ ?_
    simp only [opsAt, List.filterMap_cons, List.filterMap_nil, List.getElem?_toArray, List.getElem?_cons_succ, List.getElem?_cons_zero]
    refine Effects.world (F := fun W => Below w.heap.size w W ∧ Blk W w.heap.size 25 (zFHeader).toArray ∧ Blk W (w.heap.size + 1) 25 (zFHeader).toArray) (fun W hF => ?_) ⟨hb, hr, hz⟩
    clear hb hr hz hr0
    obtain ⟨hb, hr, hz⟩ := hF
    refine Effects.cons_ fun _ hQ => ?_
    have hzl := hz.lt
    go_wp2_with fail
    have hk := Blk.new W 137 #[.string ⟨#[97, 108, 108]⟩, .iface 205 (.pointer (some sb))]
    replace hb := hb.alloc hb.size (.cells #[.string ⟨#[97, 108, 108]⟩, .iface 205 (.pointer (some sb))] 137)
    replace hr := hr.alloc (.cells #[.string ⟨#[97, 108, 108]⟩, .iface 205 (.pointer (some sb))] 137)
    replace hz := hz.alloc (.cells #[.string ⟨#[97, 108, 108]⟩, .iface 205 (.pointer (some sb))] 137)
    obtain ⟨gg, hgg⟩ : ∃ gg, gg = W.heap.size := ⟨_, rfl⟩
    have hgn : gg ≠ w.heap.size := by omega
    rw [← hgg] at hk ⊢
    have HGG := Lib.hid hgg; clear hgg
    generalize W.alloc (.cells #[.string ⟨#[97, 108, 108]⟩, .iface 205 (.pointer (some sb))] 137) = W1 at *
    refine hQ _ _ ⟨hz, hgb hb⟩ (Effects.cons_ fun _ hQ => ?_)
    go_wp2_with fail
    refine hQ _ _ ⟨hz, hgb hb⟩ (Effects.cons_ fun _ hQ => ?_)
    go_wp2_with fail
    refine (told_any (r := true) _ (hp.below hb) ⟨gg, 1, _, rfl, .more hk .last, hgb hb⟩).mono ?_
    rintro e W2 ⟨rfl, hb2⟩
    replace hb := hb.trans (hb2.mono hb.size)
    replace hr := hr.below hb2 hr.lt
    replace hz := hz.below hb2 hz.lt
    replace hk := hk.below hb2 hk.lt
    go_wp2_with fail
    refine hQ _ _ ⟨hz, hgb hb⟩ (Effects.nil_ fun _ hQ => ?_)
    refine wpList_store_blk (cs0 := zFHeader) (cs := zFHeader) rfl 25 _ _ rfl hr rfl rfl rfl size_faceHeader one_faceHeader ?_
    intro W3 hr3 hc3
    go_wp2_with fail
    replace hb := hb.trans (hc3.below hb.size fun b h => Nat.le_of_eq h.symm)
    have hld := run_loadVar_mid (P := Tryd.prog) _ w.heap.size 0 25 zFHeader _ hr3.range Tryd.underlying25 rfl size_faceHeader
    exact bodyPost_ret (v := .tuple #[.agg (zFHeader).toArray, .int .i64 4]) (by simp [results, Tryd.results58, asAddr, hld]) rfl ⟨hb, _, 4, rfl, len_faceHeader, one_faceHeader, .inl ⟨hbig, rfl⟩⟩
  · have hlen : bs.length ≤ 262144 := by omega
    have HR := Lib.hid (readHeader_any _ (h.below hal2) hlen (hp.1.below hal2))
    have HA := Lib.hid hal2
    have HR0 := Lib.hid hr0
    have HZ0 := Lib.hid hz0
    clear h hal1 hal2 hr0 hz0
    go_enter Tryd.func58, Tryd.ntmps58
    go_wp2_with fail
    refine HR.out.mono ?_
    rintro e w2 hro
    obtain ⟨C, err, bd, rfl, h1, hl, hb2, he, ho⟩ := hro.agg (fun _ => rfl)
    have hl : C.length = 101 := hl
    have HL := Lib.hid hl
    have HI := Lib.hid (show (Tryd.prog.info? 25).map (·.size) = some C.length from by rw [hl]; rw [size_faceHeader, len_faceHeader])
    have H1 := Lib.hid h1
    have HK := Lib.hid (HR0.out.below hb2 HR0.out.lt)
    have HZ := Lib.hid (HZ0.out.below hb2 HZ0.out.lt)
    have hz2 : w.heap.size + 2 ≤ w2.heap.size := by have := hb2.size; simpa using this
    have HB2 := Lib.hid (HA.out.trans (hb2.mono HA.out.size))
    have HO := Lib.hid (show SOut tHeader w2 (fun b => w.heap.size + 2 ≤ b) bs C false bd from ho.to (fun b _ hlt => ⟨hlt, rfl⟩) fun b hb _ => by simpa using hb)
    have he := he.to (w' := w2) (S' := fun b => w.heap.size + 2 ≤ b) (fun b _ hlt => ⟨hlt, rfl⟩) fun b hb _ => by simpa using hb
    clear hro h1 hl hb2 ho HR HA HR0 HZ0
    rcases he with ⟨rfl, rfl⟩ | ⟨rfl, hch⟩
    · go_wp2_with (first
        | (refine wpList_store_blk (cs0 := zFHeader) (cs := C) rfl 25 _ _ rfl (Blk.new w2 _ _) rfl rfl (by rw [HL.out]; exact len_faceHeader) HI.out H1.out ?_; intro w3 hb3 hc3; have HB3 := Lib.hid hb3
           have HC3 := Lib.hid (show Chg (fun _ => False) w2 w3 from ((Chg.refl _ w2).alloc _).trans hc3 fun b h => .inr (Nat.le_of_eq h.symm)); clear hb3 hc3
           have HK3 := Lib.hid (HK.out.chg HC3.out id))
        | (refine wpList_load_blk' rfl 25 _ rfl HB3.out rfl Tryd.underlying25 rfl HI.out ?_)
        | (refine wpList_store_blk (cs0 := zFHeader) (cs := C) rfl 25 _ _ rfl HK3.out rfl rfl (by rw [HL.out]; exact len_faceHeader) HI.out H1.out ?_; intro w9 hb9 hc9; have HB9 := Lib.hid hb9; have HC9 := Lib.hid hc9; clear hb9 hc9))
      have hld := run_loadVar_mid (P := Tryd.prog) w9 w.heap.size 0 25 C _ HB9.out.range Tryd.underlying25 rfl HI.out
      refine bodyPost_ret (v := .tuple #[.agg C.toArray, .int .i64 0]) (by simp [results, Tryd.results58, asAddr, hld]) rfl ?_
      obtain ⟨o1, o2, o3⟩ := HO.out
      have hc29 : Chg (fun b => b = w.heap.size) w2 w9 := (HC3.out.mono (M' := fun b => b = w.heap.size) fun _ h => h.elim).trans HC9.out fun b h => .inl h
      refine ⟨HB2.out.trans (hc29.below HB2.out.size fun b h => Nat.le_of_eq h.symm), C, 0, rfl, o1, o2, .inr ⟨hlen, .inl ?_⟩⟩
      rcases o3 with ⟨x, e1, _, e3⟩ | ⟨_, e2⟩
      · exact ⟨x, e1, rfl, Sh.rep_to (fun b hb hlt => ⟨Nat.lt_of_lt_of_le hlt hc29.size, hc29.block b hlt fun e => by omega⟩) (fun b hb _ => by omega) _ _ _ e3⟩
      · cases e2
    · obtain ⟨gw, rfl⟩ := hch.form
      have HCH := Lib.hid hch; clear hch
      have hno : Sh.dec tHeader bs = none := by
        obtain ⟨_, _, o3⟩ := HO.out
        rcases o3 with ⟨x, _, e2, _⟩ | ⟨e1, _⟩
        · cases e2
        · exact e1
      have HNO := Lib.hid hno; clear hno
      go_wp2_with (refine wpList_store_blk (cs0 := zFHeader) (cs := C) rfl 25 _ _ rfl (Blk.new w2 _ _) rfl rfl (by rw [HL.out]; exact len_faceHeader) HI.out H1.out ?_; intro w3 hb3 hc3; have HC3 := Lib.hid (show Chg (fun _ => False) w2 w3 from ((Chg.refl _ w2).alloc _).trans hc3 fun b h => .inr (Nat.le_of_eq h.symm)); clear hb3 hc3)
      have hr : Blk _ _ _ _ := (HK.out.chg HC3.out id).drew
      have hz : Blk _ _ _ _ := (HZ.out.chg HC3.out id).drew
      have hb := (HB2.out.trans (HC3.out.below HB2.out.size fun b h => h.elim)).drew
      have hch3 := HCH.out.to (w' := w3.drew) (S' := fun b => w.heap.size + 2 ≤ b) (fun b hb hlt => ⟨Nat.lt_of_lt_of_le hlt HC3.out.size, HC3.out.block b hlt id⟩) fun b hb _ => hb
      have hz3 : w.heap.size + 2 ≤ w3.drew.heap.size := Nat.le_trans hz2 HC3.out.size
      refine wp_region_hoist [0, 1] [2] [3, 4] (fun w' => Blk w' (w.heap.size + 1) 25 (zFHeader).toArray) (by kernel_rfl) (by kernel_rfl) (by kernel_rfl) (by kernel_rfl) (by kernel_rfl) (by kernel_rfl) hz ?_
      (refine HoistK.load (by rfl) (by kernel_rfl) 25 _ rfl (w.heap.size + 1) 0 rfl zFHeader _ (fun w' hw => hw.range) Tryd.underlying25 rfl size_faceHeader ?_; simp only [Act.put, List.setIfInBounds_toArray, List.getElem_toArray, List.getElem_cons_zero, List.set_cons_succ, List.set_cons_zero])
      (refine HoistK.yes (by rfl) (by kernel_rfl) ⟨?_, fun w' hSw => ?_, ?_⟩; rotate_left; (· go_simp; try with_reducible rfl); simp only [Act.put, List.setIfInBounds_toArray, List.getElem_toArray, List.getElem_cons_succ, List.getElem_cons_zero, List.set_cons_succ, List.set_cons_zero])
      refine HoistK.nil_ ?_
      simp only [opsAt, List.filterMap_cons, List.filterMap_nil, List.getElem?_toArray, List.getElem?_cons_succ, List.getElem?_cons_zero]
      refine Effects.world (F := fun W => Below w.heap.size w W ∧ Blk W w.heap.size 25 (zFHeader).toArray ∧ Blk W (w.heap.size + 1) 25 (zFHeader).toArray ∧ Chain W (fun b => w.heap.size + 2 ≤ b) sent (.iface 133 (.pointer (some ⟨gw, 0, none⟩)))) (fun W hF => ?_) ⟨hb, hr, hz, hch3⟩
      clear hb hr hz hch3 hz3
      obtain ⟨hb, hr, hz, hch⟩ := hF
      refine Effects.cons_ fun _ hQ => ?_
      go_wp2_with fail
      refine (told_any (r := false) _ (hp.below hb) (Wr.of_chain hch)).mono ?_
      rintro e W2 ⟨rfl, hb2⟩
      replace hb := hb.trans (hb2.mono hb.size)
      replace hr := hr.below hb2 hr.lt
      replace hz := hz.below hb2 hz.lt
      go_wp2_with fail
      refine hQ _ _ hz (Effects.nil_ fun _ hQ => ?_)
      refine wpList_store_blk (cs0 := zFHeader) (cs := zFHeader) rfl 25 _ _ rfl hr rfl rfl rfl size_faceHeader one_faceHeader ?_
      intro W3 hr3 hc3
      go_wp2_with fail
      replace hb := hb.trans (hc3.below hb.size fun b h => Nat.le_of_eq h.symm)
      have hld := run_loadVar_mid (P := Tryd.prog) _ w.heap.size 0 25 zFHeader _ hr3.range Tryd.underlying25 rfl size_faceHeader
      exact bodyPost_ret (v := .tuple #[.agg (zFHeader).toArray, .int .i64 5]) (by simp [results, Tryd.results58, asAddr, hld]) rfl ⟨hb, _, 5, rfl, len_faceHeader, one_faceHeader, .inr ⟨hlen, .inr ⟨HNO.out, rfl⟩⟩⟩

set_option maxHeartbeats 4000000 in
set_option maxRecDepth 100000 in
theorem ReadHeader_any (w : World) {S : Nat → Prop} {v sent : Value} {bs : List UInt8} (h : Bs w S v bs) (hp : Pk w sent) :
    Calls Tryd.prog 22 #[v] w (FaceOut tHeader w bs) := by
  have hal1 := (Below.refl w.heap.size w).alloc (Nat.le_refl _) (.cells (zFHeader).toArray 25)
  have HF := Lib.hid (faceHeader_any _ (h.below hal1) (hp.below hal1))
  have HR := Lib.hid (Blk.new w 25 (zFHeader).toArray)
  have HA := Lib.hid hal1
  obtain ⟨A, cap, rfl⟩ := h.form
  clear h hp hal1
  go_enter Tryd.func22, Tryd.ntmps22
  go_wp2_with fail
  refine HF.out.mono ?_
  rintro e w1 ⟨hb, C, n, rfl, hl, h1, hn⟩
  have hl : C.length = 101 := hl
  have HL := Lib.hid hl
  have HI := Lib.hid (show (Tryd.prog.info? 25).map (·.size) = some C.length from by rw [hl]; rw [size_faceHeader, len_faceHeader])
  have H1 := Lib.hid h1
  have hlz : (zFHeader).length = C.length := by rw [hl, len_faceHeader]
  have HLZ := Lib.hid hlz
  have HK := Lib.hid (HR.out.below hb (by simp))
  have HB := Lib.hid hb
  have HN := Lib.hid hn
  have hz1 : w.heap.size + 1 ≤ w1.heap.size := by have := hb.size; simpa using this
  clear hl h1 hlz hb hn HF HR
  go_wp2_with (refine wpList_store_blk (cs0 := zFHeader) (cs := C) rfl 25 _ _ rfl HK.out rfl rfl HLZ.out HI.out H1.out ?_; intro w9 hb9 hc9; have HB9 := Lib.hid hb9; have HC9 := Lib.hid hc9; clear hb9 hc9)
  have hld := run_loadVar_mid (P := Tryd.prog) w9 w.heap.size 0 25 C _ HB9.out.range Tryd.underlying25 rfl HI.out
  refine bodyPost_ret (v := .tuple #[.agg C.toArray, .int .i64 n]) (by simp [results, Tryd.results22, asAddr, hld]) rfl ?_
  have hbw := HA.out.trans (HB.out.mono HA.out.size)
  refine ⟨hbw.trans (HC9.out.below hbw.size fun b h => Nat.le_of_eq h.symm), C, n, rfl, HL.out, H1.out, HN.out.imp id fun ⟨q1, q2⟩ => ⟨q1, q2.imp (fun ⟨x, e1, e2, e3⟩ => ⟨x, e1, e2, ?_⟩) id⟩⟩
  exact Sh.rep_to (fun b hb hlt => ⟨Nat.lt_of_lt_of_le hlt HC9.out.size, HC9.out.block b hlt fun e => by simp at hb; omega⟩) (fun b hb _ => by simp at hb; omega) _ _ _ e3

end Go.Proofs.YtjjgmkfkmckkoaaDoor

/- Codec's laws: header: written as the document says, read back as it was. Printed by genLaw.py. -/
namespace Go.Proofs.YtjjgmkfkmckkoaaDoor
open Go.RowKit Go.Maps
attribute [-simp] Tryd.isAgg23 Tryd.typeInfo23 Tryd.isAgg25 Tryd.typeInfo25

set_option maxHeartbeats 8000000 in
set_option maxRecDepth 100000 in
theorem lawHeader_any (w : World) {S : Nat → Prop} {x : tHeader.El} {cs : List Value} {sent : Value} (h : tHeader.rep w S x cs) (h1 : ∀ v ∈ cs, v.oneCell' = true) (hS : ∀ b, S b → b < w.heap.size) (hl : (tHeader.enc x).length ≤ 1099511627776) (hp : Pk w sent) :
    Calls Tryd.prog 9 #[.agg cs.toArray] w fun e w' => e = .returned (.bool true) ∧ Below w.heap.size w w' := by
  have hpos : 0 < (tHeader.enc x).length := by
    show 0 < (joinB _).length
    rw [joinB_length]; omega
  have hsize := Sh.rep_size _ _ _ h
  have hwf := Sh.rep_wf _ _ _ h
  have hdec := Sh.dec_enc tHeader x hwf (by omega)
  have HI := Lib.hid (show (Tryd.prog.info? 25).map (·.size) = some cs.length from by rw [hsize]; kernel_rfl)
  obtain ⟨bs, hbs⟩ : ∃ bs, bs = tHeader.enc x := ⟨_, rfl⟩
  have hal1 := (Below.refl w.heap.size w).alloc (Nat.le_refl _) (.cells cs.toArray 25)
  have h0 := Sh.rep_below h hal1
  have hA := header_any _ h0
  rw [← hbs] at hl hpos hdec hA
  have HA := Lib.hid hA
  have HX := Lib.hid (Blk.new w 25 cs.toArray)
  have HB1 := Lib.hid hal1
  have HR := Lib.hid h
  have HL := Lib.hid hl
  have HBS := Lib.hid hbs
  have HS := Lib.hid hS
  have HP := Lib.hid hp
  have HD := Lib.hid hdec
  have H1 := Lib.hid h1
  clear h hl hbs hsize hwf hdec hal1 h0 hA hS hp h1
  go_enter Tryd.func9, Tryd.ntmps9
  go_wp2_with (refine wpList_load_blk' rfl 25 _ rfl HX.out rfl Tryd.underlying25 rfl HI.out ?_)
  refine HA.out.mono ?_
  rintro e w2 ⟨v, rfl, f2⟩
  obtain ⟨A, cap, rfl⟩ := f2.1.form
  have hB2 := HB1.out.trans (f2.2.mono HB1.out.size)
  have HX2 := Lib.hid (HX.out.below f2.2 HX.out.lt)
  have HF2 := Lib.hid f2
  have HB2 := Lib.hid hB2
  clear hB2 f2 HA HX
  go_wp2_with fail
  -- REGION 2
  have hx := HX2.out.drew
  have hf := HF2.out.1.drew
  have hb := HB2.out.drew
  refine wp_region_segsV [([0, 1, 2], [3]), ([4, 5], [])] (by kernel_rfl) (by kernel_rfl) (by kernel_rfl) (by kernel_rfl) (SegV.mk (fun w' => Blk w' w.heap.size 25 cs.toArray ∧ Bs w' (fun b => w.heap.size + 1 ≤ b) (.slice A bs.length cap) bs) (fun _ _ => trivial) ⟨hx, hf.sub fun b hb _ => by simpa using hb.1⟩ ?_)
  (refine HoistK.yes (by rfl) (by kernel_rfl) ⟨?_, fun w' hSw => ?_, ?_⟩; rotate_left; (· go_simp; try with_reducible rfl); simp only [Act.put, List.setIfInBounds_toArray, List.getElem_toArray, List.getElem_cons_zero, List.set_cons_succ, List.set_cons_zero])
  (refine HoistK.yes (by rfl) (by kernel_rfl) ⟨?_, fun w' hSw => ?_, ?_⟩; rotate_left; (· have e1 := run_str hSw.2 Tryd.underlying28 Tryd.underlying5 Tryd.underlying9; go_simp; try with_reducible rfl); simp only [Act.put, List.setIfInBounds_toArray, List.getElem_toArray, List.getElem_cons_succ, List.getElem_cons_zero, List.set_cons_succ, List.set_cons_zero])
  (refine HoistK.load (by rfl) (by kernel_rfl) 25 _ rfl w.heap.size 0 rfl cs _ (fun w' hw => hw.1.range) Tryd.underlying25 rfl HI.out ?_; simp only [Act.put, List.setIfInBounds_toArray, List.getElem_toArray, List.getElem_cons_succ, List.getElem_cons_zero, List.set_cons_succ, List.set_cons_zero])
  refine HoistK.nil_ ?_
  simp only [opsAt, List.filterMap_cons, List.filterMap_nil, List.getElem?_toArray, List.getElem?_cons_succ, List.getElem?_cons_zero]
  refine EffS.cons_ fun _ hQ => ?_
  have hr := rHeader_any _ (Sh.rep_below HR.out hb) (by rw [← HBS.out]; exact HL.out)
  rw [← HBS.out] at hr
  have HRR := Lib.hid hr
  clear hr hx hf hb
  go_wp2_with fail
  refine HRR.out.mono ?_
  rintro e w3 ⟨v3, rfl, f3⟩
  obtain ⟨A3, c3, rfl⟩ := f3.1.form
  have hx := HX2.out.drew.below f3.2 HX2.out.drew.lt
  have hf := HF2.out.1.drew.below f3.2
  have hb := HB2.out.drew.trans (f3.2.mono HB2.out.drew.size)
  have HX3 := Lib.hid hx
  have HF3 := Lib.hid hf
  have HB3 := Lib.hid hb
  have HS23 := Lib.hid (show Below w2.heap.size w2 w3 from ((Below.refl _ w2).drew).trans f3.2)
  have hf3 := f3.1
  clear f3 HRR HX2 HF2 HB2
  go_wp2_with fail
  refine hQ _ _ ⟨hx, hf.sub fun b hb _ => by simpa using hb.1⟩ (EffS.nil_ (SegV.mk (fun w' => (Blk w' w.heap.size 25 cs.toArray ∧ Bs w' (fun b => w.heap.size + 1 ≤ b) (.slice A bs.length cap) bs) ∧ Bs w' (fun b => w2.heap.size ≤ b) (.slice A3 bs.length c3) bs) (fun _ h => h.1) ⟨⟨hx, hf.sub fun b hb _ => by simpa using hb.1⟩, hf3.sub fun b hb _ => hb.1⟩ ?_))
  (refine HoistK.yes (by rfl) (by kernel_rfl) ⟨?_, fun w' hSw => ?_, ?_⟩; rotate_left; (· have e1 := run_str hSw.2 Tryd.underlying28 Tryd.underlying5 Tryd.underlying9; go_simp; try with_reducible rfl); simp only [Act.put, List.setIfInBounds_toArray, List.getElem_toArray, List.getElem_cons_succ, List.getElem_cons_zero, List.set_cons_succ, List.set_cons_zero])
  (refine HoistK.yes (by rfl) (by kernel_rfl) ⟨?_, fun w' hSw => ?_, ?_⟩; rotate_left; (· go_simp; try with_reducible rfl); simp only [Act.put, List.setIfInBounds_toArray, List.getElem_toArray, List.getElem_cons_succ, List.getElem_cons_zero, List.set_cons_succ, List.set_cons_zero])
  refine HoistK.nil_ ?_
  simp only [opsAt, List.filterMap_nil, List.getElem?_toArray]
  refine EffS.nil_ fun _ hQ => ?_
  go_wp2_with fail
  refine (ReadHeader_any _ HF3.out (HP.out.below HB3.out)).mono ?_
  rintro e w4 ⟨hb4, C, n, rfl, hCl, hC1, hn⟩
  have hsz3 := HB3.out.size
  have HX4 := Lib.hid (HX3.out.below hb4 HX3.out.lt)
  have HF4 := Lib.hid (HF3.out.below hb4)
  have HB4 := Lib.hid (HB3.out.trans (hb4.mono HB3.out.size))
  have hs34 := hb4.size
  have HS34 := Lib.hid hb4
  have HCL := Lib.hid hCl
  have HC1 := Lib.hid hC1
  have HN := Lib.hid hn
  have HCI := Lib.hid (show (Tryd.prog.info? 25).map (·.size) = some C.length from by rw [hCl]; kernel_rfl)
  have HZL := Lib.hid (show zFHeader.length = C.length from by rw [hCl]; rfl)
  clear hCl hC1 hn HF3 HX3 HB3 hb4
  by_cases hbig : 262144 < bs.length
  · obtain rfl : n = 4 := by
      rcases HN.out with ⟨_, h⟩ | ⟨h, _⟩
      · exact h
      · omega
    go_wp2_with (refine wpList_store_blk (cs0 := zFHeader) (cs := C) rfl 25 _ _ rfl (Blk.new w4 _ _) rfl rfl HZL.out HCI.out HC1.out ?_; intro w5 hy5 hc5; have HY5 := Lib.hid hy5; have HC5 := Lib.hid (show Chg (fun _ => False) w4 w5 from ((Chg.refl _ w4).alloc _).trans hc5 fun b h => .inr (Nat.le_of_eq h.symm)); clear hy5 hc5)
    go_ret
    exact ⟨rfl, HB4.out.trans (HC5.out.below HB4.out.size fun b h => h.elim)⟩
  obtain ⟨hrep, rfl⟩ : tHeader.rep w4 (fun b => w3.heap.size ≤ b) x C ∧ n = 0 := by
    rcases HN.out with ⟨h, _⟩ | ⟨_, ⟨y, h1, h2, h3⟩ | ⟨h1, _⟩⟩
    · omega
    · rw [HD.out] at h1
      injection h1 with h1
      subst h1
      exact ⟨h3, h2⟩
    · rw [HD.out] at h1; cases h1
  have HREP := Lib.hid hrep
  clear hrep HN
  go_wp2_with (refine wpList_store_blk (cs0 := zFHeader) (cs := C) rfl 25 _ _ rfl (Blk.new w4 _ _) rfl rfl HZL.out HCI.out HC1.out ?_; intro w5 hy5 hc5; have HY5 := Lib.hid hy5; have HC5 := Lib.hid (show Chg (fun _ => False) w4 w5 from ((Chg.refl _ w4).alloc _).trans hc5 fun b h => .inr (Nat.le_of_eq h.symm)); clear hy5 hc5)
  have HF5 := Lib.hid (HF4.out.chg HC5.out fun _ _ h => h)
  obtain ⟨B, off, rfl, hBw, hBlt, cB, tB, hbB, hcell⟩ : ∃ B off, A = some ⟨B, off, none⟩ ∧ w.heap.size + 1 ≤ B ∧ B < w3.heap.size ∧ ∃ cB tB, Blk w5 B tB cB ∧ ∀ j, j < bs.length → ∃ y : Nat, y < 256 ∧ cB[off + j]? = some (.int .u8 y) := by
    obtain ⟨⟨hn, A', c', e, _, _, hp⟩, _⟩ := HF5.out
    injection e with e
    subst e
    obtain ⟨B, off, rfl, ⟨hw1, cs', t', hth⟩, hlt, hc⟩ := hp hpos
    have hB2 : B < w2.heap.size := (Array.getElem?_eq_some_iff.1 hth).1
    have hB3 := Nat.lt_of_lt_of_le hB2 HS23.out.size
    have h5 : Blk w5 B t' cs' := by
      show w5.heap[B]? = _
      rw [HC5.out.block B (Nat.lt_of_lt_of_le hB3 hs34) id, HS34.out.block B hB3, HS23.out.block B hB2]
      exact hth
    refine ⟨B, off, rfl, by simpa using hw1, hB3, cs', t', h5, fun j hj => ⟨bs[j].toNat, UInt8.toNat_lt _, ?_⟩⟩
    rw [← h5.cell, hc j _ (u8s_get bs j hj)]
  go_loopw [27] (fun i wr => ∃ k : Nat, k ≤ bs.length ∧ i = .int .i64 k ∧ (∃ c, Hid (Blk wr B tB c ∧ ∀ j, j < bs.length → ∃ y : Nat, y < 256 ∧ c[off + j]? = some (.int .u8 y))) ∧ Chg (fun b => b = B) w5 wr) (fun i _ => bs.length - (intOf i).toNat)
  case atStart => exact ⟨0, Nat.zero_le _, rfl, ⟨cB, Lib.hid ⟨hbB, hcell⟩⟩, Chg.refl _ _⟩
  case round =>
    obtain ⟨k, hk, rfl, ⟨c, hC⟩, hch⟩ := hrel
    by_cases hlt : k < bs.length
    · obtain ⟨y, hy, hc⟩ := hC.out.2 k hlt
      have hcc : wr.cell? ⟨B, off + k, none⟩ = some (.int .u8 y) := by rw [hC.out.1.cell]; exact hc
      have hz := hC.out.1.frozen (off + k)
      go_wp2
      refine ⟨⟨k + 1, by omega, by push_cast; rfl, ⟨c.setIfInBounds (off + k) _, Lib.hid ⟨hC.out.1.set_ _ _, fun j hj => ?_⟩⟩, hch.setIn _ _⟩, by simp only [intOf]; omega⟩
      by_cases e : j = k
      · subst e
        refine ⟨y ^^^ 85, Nat.xor_lt_two_pow (n := 8) (by omega) (by omega), ?_⟩
        rw [Array.getElem?_setIfInBounds_self_of_lt (Array.getElem?_eq_some_iff.1 hc).1]
        have := u8_xor_nat y 85 hy (by omega)
        exact congrArg (fun z => some (Value.int .u8 z)) this
      · obtain ⟨y', h1, h2⟩ := hC.out.2 j hj
        exact ⟨y', h1, by rw [Array.getElem?_setIfInBounds_ne (by omega)]; exact h2⟩
    · have hx := ((HX4.out.chg HC5.out id).chg hch fun e => by have e : w.heap.size = B := e; omega).drew
      have hy := (HY5.out.chg hch fun e => by have e : w4.heap.size = B := e; omega).drew
      have hb5 := HB4.out.trans (HC5.out.below HB4.out.size fun b h => h.elim)
      have hbr := (hb5.trans (hch.below hb5.size fun b h => by have h : b = B := h; omega)).drew
      have hrx := Sh.rep_below HR.out hbr
      have hry : tHeader.rep wr.drew (fun b => w3.heap.size ≤ b) x C := Sh.rep_chg (Sh.rep_chg HREP.out HC5.out fun _ _ h => h) hch.drew fun b h1 h2 => by have h2 : b = B := h2; omega
      have HRX := Lib.hid hrx
      have HRY := Lib.hid hry
      have HBR := Lib.hid hbr
      have hl : (tHeader.enc x).length ≤ 1099511627776 := by rw [← HBS.out]; exact HL.out
      clear hC hbB hcell
      go_wp2_with fail
      refine wp_region_segsV [([0, 1, 2, 3, 6], [4]), ([5], [7]), ([8, 9, 10], [11])] (by kernel_rfl) (by kernel_rfl) (by kernel_rfl) (by kernel_rfl) (SegV.mk (fun w' => Blk w' w.heap.size 25 cs.toArray ∧ Blk w' w4.heap.size 25 C.toArray) (fun _ _ => trivial) ⟨hx, hy⟩ ?_)
      (refine HoistK.yes (by rfl) (by kernel_rfl) ⟨?_, fun w' hSw => ?_, ?_⟩; rotate_left; (· go_simp; try with_reducible rfl); simp only [Act.put, List.setIfInBounds_toArray, List.getElem_toArray, List.getElem_cons_zero, List.set_cons_succ, List.set_cons_zero])
      (refine HoistK.yes (by rfl) (by kernel_rfl) ⟨?_, fun w' hSw => ?_, ?_⟩; rotate_left; (· go_simp; try with_reducible rfl); simp only [Act.put, List.setIfInBounds_toArray, List.getElem_toArray, List.getElem_cons_succ, List.getElem_cons_zero, List.set_cons_succ, List.set_cons_zero])
      (refine HoistK.yes (by rfl) (by kernel_rfl) ⟨?_, fun w' hSw => ?_, ?_⟩; rotate_left; (· go_simp; try with_reducible rfl); simp only [Act.put, List.setIfInBounds_toArray, List.getElem_toArray, List.getElem_cons_succ, List.getElem_cons_zero, List.set_cons_succ, List.set_cons_zero])
      (refine HoistK.load (by rfl) (by kernel_rfl) 25 _ rfl w4.heap.size 0 rfl C _ (fun w' hw => hw.2.range) Tryd.underlying25 rfl HCI.out ?_; simp only [Act.put, List.setIfInBounds_toArray, List.getElem_toArray, List.getElem_cons_succ, List.getElem_cons_zero, List.set_cons_succ, List.set_cons_zero])
      (refine HoistK.load (by rfl) (by kernel_rfl) 25 _ rfl w.heap.size 0 rfl cs _ (fun w' hw => hw.1.range) Tryd.underlying25 rfl HI.out ?_; simp only [Act.put, List.setIfInBounds_toArray, List.getElem_toArray, List.getElem_cons_succ, List.getElem_cons_zero, List.set_cons_succ, List.set_cons_zero])
      refine HoistK.nil_ ?_
      simp only [opsAt, List.filterMap_cons, List.filterMap_nil, List.getElem?_toArray, List.getElem?_cons_succ, List.getElem?_cons_zero]
      refine EffS.cons_ fun _ hQ => ?_
      have HC1' := Lib.hid (rHeader_any _ HRY.out hl)
      go_wp2_with fail
      refine HC1'.out.mono ?_
      rintro e w6 ⟨v6, rfl, f6⟩
      rw [← HBS.out] at f6
      obtain ⟨A6, c6, rfl⟩ := f6.1.form
      have hx6 := hx.below f6.2 hx.lt
      have hy6 := hy.below f6.2 hy.lt
      have HB6 := Lib.hid (HBR.out.trans (f6.2.mono HBR.out.size))
      have hf6 := f6.1
      clear f6 HC1'
      go_wp2_with fail
      refine hQ _ _ ⟨hx6, hy6⟩ (EffS.nil_ (SegV.mk (fun w' => (Blk w' w.heap.size 25 cs.toArray ∧ Blk w' w4.heap.size 25 C.toArray) ∧ Bs w' (fun b => wr.heap.size ≤ b) (.slice A6 bs.length c6) bs) (fun _ h => h.1) ⟨⟨hx6, hy6⟩, hf6.sub fun b hb _ => hb.1⟩ ?_))
      (refine HoistK.yes (by rfl) (by kernel_rfl) ⟨?_, fun w' hSw => ?_, ?_⟩; rotate_left; (· have e1 := run_str hSw.2 Tryd.underlying28 Tryd.underlying5 Tryd.underlying9; go_simp; try with_reducible rfl); simp only [Act.put, List.setIfInBounds_toArray, List.getElem_toArray, List.getElem_cons_succ, List.getElem_cons_zero, List.set_cons_succ, List.set_cons_zero])
      refine HoistK.nil_ ?_
      simp only [opsAt, List.filterMap_cons, List.filterMap_nil, List.getElem?_toArray, List.getElem?_cons_succ, List.getElem?_cons_zero]
      refine EffS.cons_ fun _ hQ => ?_
      have HC2' := Lib.hid (rHeader_any _ (Sh.rep_below HR.out HB6.out) hl)
      go_wp2_with fail
      refine HC2'.out.mono ?_
      rintro e w7 ⟨v7, rfl, f7⟩
      rw [← HBS.out] at f7
      obtain ⟨A7, c7, rfl⟩ := f7.1.form
      have hx7 := hx6.below f7.2 hx6.lt
      have hy7 := hy6.below f7.2 hy6.lt
      have HB7 := Lib.hid (HB6.out.trans (f7.2.mono HB6.out.size))
      have hf67 := hf6.below f7.2
      have hf7 := f7.1
      clear f7 HC2'
      go_wp2_with fail
      refine hQ _ _ ⟨⟨hx7, hy7⟩, hf67.sub fun b hb _ => hb.1⟩ (EffS.nil_ (SegV.mk (fun w' => ((Blk w' w.heap.size 25 cs.toArray ∧ Blk w' w4.heap.size 25 C.toArray) ∧ Bs w' (fun b => wr.heap.size ≤ b) (.slice A6 bs.length c6) bs) ∧ Bs w' (fun b => w6.heap.size ≤ b) (.slice A7 bs.length c7) bs) (fun _ h => h.1) ⟨⟨⟨hx7, hy7⟩, hf67.sub fun b hb _ => hb.1⟩, hf7.sub fun b hb _ => hb.1⟩ ?_))
      (refine HoistK.yes (by rfl) (by kernel_rfl) ⟨?_, fun w' hSw => ?_, ?_⟩; rotate_left; (· have e1 := run_str hSw.2 Tryd.underlying28 Tryd.underlying5 Tryd.underlying9; go_simp; try with_reducible rfl); simp only [Act.put, List.setIfInBounds_toArray, List.getElem_toArray, List.getElem_cons_succ, List.getElem_cons_zero, List.set_cons_succ, List.set_cons_zero])
      (refine HoistK.yes (by rfl) (by kernel_rfl) ⟨?_, fun w' hSw => ?_, ?_⟩; rotate_left; (· go_simp; try with_reducible rfl); simp only [Act.put, List.setIfInBounds_toArray, List.getElem_toArray, List.getElem_cons_succ, List.getElem_cons_zero, List.set_cons_succ, List.set_cons_zero])
      (refine HoistK.yes (by rfl) (by kernel_rfl) ⟨?_, fun w' hSw => ?_, ?_⟩; rotate_left; (· go_simp; try with_reducible rfl); simp only [Act.put, List.setIfInBounds_toArray, List.getElem_toArray, List.getElem_cons_succ, List.getElem_cons_zero, List.set_cons_succ, List.set_cons_zero])
      refine HoistK.nil_ ?_
      simp only [opsAt, List.filterMap_cons, List.filterMap_nil, List.getElem?_toArray, List.getElem?_cons_succ, List.getElem?_cons_zero]
      refine EffS.cons_ fun _ hQ => ?_
      go_wp2_with fail
      refine hQ _ _ ⟨⟨⟨hx7, hy7⟩, hf67.sub fun b hb _ => hb.1⟩, hf7.sub fun b hb _ => hb.1⟩ (EffS.nil_ fun _ hQ => ?_)
      go_wp2_with fail
      go_ret
      exact ⟨rfl, HB7.out⟩
end Go.Proofs.YtjjgmkfkmckkoaaDoor

/- Codec: two headers compared. -/
namespace Go.Proofs.YtjjgmkfkmckkoaaDoor
open Go.RowKit

theorem nk_t' : nk true = .i64 := rfl
def litB (b : UInt8) : Lit := .int .u8 b.toNat
theorem keyLits_int {d : Nat} {t : TypeId} {n : Int} (ht : Tryd.prog.underlying t = some (.int .i64)) (hn : (nk true).wrap n = n) : Tryd.prog.keyLits (d + 1) t [.int .i64 n] = some [.int .i64 n] := by
  have hw : (Lit.int .i64 n).wf = true := by
    have h : IntKind.i64.wrap n = n := hn
    simp only [Lit.wf, IntKind.min, IntKind.max, IntKind.signed, IntKind.bits, Bool.and_eq_true]
    rw [IntKind.wrap_i64] at h
    simp
    omega
  simp only [Program.keyLits, ht, hw, and_self, if_true]
theorem mapM_some {α β : Type} (f : α → Option β) (g : α → β) : ∀ (l : List α), (∀ a ∈ l, f a = some (g a)) → l.mapM f = some (l.map g)
  | [], _ => rfl
  | a :: r, h => by
    rw [List.mapM_cons, h a (by simp), mapM_some f g r fun b hb => h b (by simp [hb])]
    rfl
theorem flatten_ones {α β : Type} (f : α → β) : ∀ l : List α, (l.map fun i => [f i]).flatten = l.map f
  | [] => rfl
  | a :: r => by rw [List.map_cons, List.flatten_cons, flatten_ones f r]; rfl
set_option maxRecDepth 10000 in
theorem keyLits_dig {d : Nat} {l : List UInt8} (hl : l.length = 32) : Tryd.prog.keyLits (d + 2) 23 (u8s l) = some (l.map litB) := by
  have h8 : ∀ b : UInt8, Tryd.prog.keyLits (d + 1) 5 [.int .u8 b.toNat] = some [litB b] := fun b => by
    have hw : (Lit.int .u8 b.toNat).wf = true := by
      have := b.toNat_lt
      simp only [Lit.wf, IntKind.min, IntKind.max, IntKind.signed, IntKind.bits, Bool.and_eq_true]
      simp
      omega
    simp only [Program.keyLits, Tryd.underlying5, hw, and_self, if_true]
    rfl
  have hc : Tryd.prog.cellsOf 5 = 1 := by kernel_rfl
  have hcd : Tryd.prog.cellsOf 23 = 32 := by kernel_rfl
  unfold Program.keyLits
  simp only [Tryd.underlying23, u8s_length, hl, hcd, if_true, hc, Nat.mul_one]
  rw [mapM_some _ (fun i => [litB (l.getD i 0)])]
  · rw [Option.map_some]
    congr 1
    refine List.ext_getElem? fun i => ?_
    rw [flatten_ones (fun i => litB (l.getD i 0))]
    rcases Nat.lt_or_ge i 32 with h | h
    · simp [List.getElem?_map, List.getElem?_range h, List.getElem?_eq_getElem (show i < l.length by omega), List.getD]
    · rw [List.getElem?_eq_none (by simpa using h), List.getElem?_eq_none (by simp; omega)]
  · intro i hi
    have hi : i < 32 := List.mem_range.1 hi
    have hil : i < l.length := by omega
    rw [show ((u8s l).drop i).take 1 = [.int .u8 ((l.getD i 0).toNat : Int)] by
      rw [List.drop_eq_getElem_cons (by rw [u8s_length]; exact hil)]
      simp [u8s, List.getD, hil]]
    exact h8 _

theorem litB_inj {a b : UInt8} (h : litB a = litB b) : a = b := by
  have h : (Lit.int .u8 a.toNat) = Lit.int .u8 b.toNat := h
  injection h with _ h
  exact UInt8.toNat_inj.1 (by omega)
theorem litsB_inj : ∀ {l k : List UInt8}, l.map litB = k.map litB → l = k
  | [], [], _ => rfl
  | [], _ :: _, h => by cases h
  | _ :: _, [], h => by cases h
  | a :: l, b :: k, h => by
    rw [List.map_cons, List.map_cons] at h
    injection h with h1 h2
    rw [litB_inj h1, litsB_inj h2]
/-- A header's cells as literals. -/
def headLits (x : tHeader.El) : List Lit := [.int .i64 x.1, .int .i64 x.2.1, .int .i64 x.2.2.1, .int .i64 x.2.2.2.1] ++ x.2.2.2.2.1.map litB ++ x.2.2.2.2.2.1.map litB ++ x.2.2.2.2.2.2.1.map litB ++ [.int .i64 x.2.2.2.2.2.2.2.1]
set_option maxRecDepth 100000 in
theorem keyLits_header {w : World} {S : Nat → Prop} {x : tHeader.El} {cs : List Value} (h : tHeader.rep w S x cs) : Tryd.prog.keyLits 5 25 cs = some (headLits x) := by
  obtain ⟨x0, x1, x2, x3, x4, x5, x6, x7, _⟩ := x
  obtain ⟨_, _, rfl, ⟨rfl, h0⟩, _, _, rfl, ⟨rfl, h1⟩, _, _, rfl, ⟨rfl, h2⟩, _, _, rfl, ⟨rfl, h3⟩, _, _, rfl, ⟨rfl, l4⟩, _, _, rfl, ⟨rfl, l5⟩, _, _, rfl, ⟨rfl, l6⟩, _, _, rfl, ⟨rfl, h7⟩, rfl⟩ := h
  have hc : Tryd.prog.cellsOf 25 = 101 := by kernel_rfl
  have c3 : Tryd.prog.cellsOf 3 = 1 := by kernel_rfl
  have c2 : Tryd.prog.cellsOf 2 = 1 := by kernel_rfl
  have cd : Tryd.prog.cellsOf 23 = 32 := by kernel_rfl
  have k3 : ∀ n : Int, (nk true).wrap n = n → Tryd.prog.keyLits 4 3 [.int .i64 n] = some [.int .i64 n] := fun n h => keyLits_int Tryd.underlying3 h
  have k2 : ∀ n : Int, (nk true).wrap n = n → Tryd.prog.keyLits 4 2 [.int .i64 n] = some [.int .i64 n] := fun n h => keyLits_int Tryd.underlying2 h
  have kd : ∀ l : List UInt8, l.length = 32 → Tryd.prog.keyLits 4 23 (u8s l) = some (l.map litB) := fun l h => keyLits_dig h
  obtain ⟨D, hD⟩ : ∃ D, D = [Value.int .i64 x0] ++ ([Value.int .i64 x1] ++ ([Value.int .i64 x2] ++ ([Value.int .i64 x3] ++ (u8s x4 ++ (u8s x5 ++ (u8s x6 ++ ([Value.int .i64 x7] ++ []))))))) := ⟨_, rfl⟩
  have u4 : (u8s x4).length = 32 := by rw [u8s_length]; exact l4
  have u5 : (u8s x5).length = 32 := by rw [u8s_length]; exact l5
  have u6 : (u8s x6).length = 32 := by rw [u8s_length]; exact l6
  have hl : D.length = 101 := by rw [hD]; simp [u4, u5, u6]
  have e0 : (D.drop 0).take 1 = [Value.int .i64 x0] := by rw [hD]; rfl
  have e1 : (D.drop 1).take 1 = [Value.int .i64 x1] := by rw [hD]; rfl
  have e2 : (D.drop 2).take 1 = [Value.int .i64 x2] := by rw [hD]; rfl
  have e3 : (D.drop 3).take 1 = [Value.int .i64 x3] := by rw [hD]; rfl
  have q4 : D.drop 4 = u8s x4 ++ (u8s x5 ++ (u8s x6 ++ ([Value.int .i64 x7] ++ []))) := by rw [hD]; rfl
  have q5 : D.drop 36 = u8s x5 ++ (u8s x6 ++ ([Value.int .i64 x7] ++ [])) := by rw [show 36 = 4 + 32 from rfl, ← List.drop_drop, q4, List.drop_left' u4]
  have q6 : D.drop 68 = u8s x6 ++ ([Value.int .i64 x7] ++ []) := by rw [show 68 = 36 + 32 from rfl, ← List.drop_drop, q5, List.drop_left' u5]
  have q7 : D.drop 100 = [Value.int .i64 x7] ++ [] := by rw [show 100 = 68 + 32 from rfl, ← List.drop_drop, q6, List.drop_left' u6]
  have e4 : (D.drop 4).take 32 = u8s x4 := by rw [q4, List.take_left' u4]
  have e5 : (D.drop 36).take 32 = u8s x5 := by rw [q5, List.take_left' u5]
  have e6 : (D.drop 68).take 32 = u8s x6 := by rw [q6, List.take_left' u6]
  have e7 : (D.drop 100).take 1 = [Value.int .i64 x7] := by rw [q7]; rfl
  rw [nk_t', ← hD]
  clear hD q4 q5 q6 q7
  unfold Program.keyLits
  simp only [Tryd.underlying25, hc, hl]
  rw [if_pos ⟨trivial, by kernel_rfl⟩]
  simp only [List.mapM_cons, List.mapM_nil, c3, c2, cd, e0, e1, e2, e3, e4, e5, e6, e7, k3 _ h0, k3 _ h1, k2 _ h2, k2 _ h3, kd _ l4, kd _ l5, kd _ l6, k3 _ h7, Option.bind_eq_bind, Option.bind_some, Option.pure_def, Option.map_some, headLits]
  simp
theorem headLits_inj {w : World} {S : Nat → Prop} {x y : tHeader.El} {cs ds : List Value} (h : tHeader.rep w S x cs) (h' : tHeader.rep w S y ds) : headLits x = headLits y ↔ tHeader.enc x = tHeader.enc y := by
  constructor
  · intro e
    obtain ⟨x0, x1, x2, x3, x4, x5, x6, x7, _⟩ := x
    obtain ⟨y0, y1, y2, y3, y4, y5, y6, y7, _⟩ := y
    obtain ⟨_, _, _, _, _, _, _, _, _, _, _, _, _, _, _, _, _, _, _, ⟨_, l4⟩, _, _, _, ⟨_, l5⟩, _, _, _, ⟨_, l6⟩, _⟩ := h
    obtain ⟨_, _, _, _, _, _, _, _, _, _, _, _, _, _, _, _, _, _, _, ⟨_, m4⟩, _, _, _, ⟨_, m5⟩, _, _, _, ⟨_, m6⟩, _⟩ := h'
    simp only [headLits, List.cons_append, List.nil_append, List.cons.injEq, Lit.int.injEq, true_and] at e
    obtain ⟨rfl, rfl, rfl, rfl, e⟩ := e
    obtain ⟨e, e7⟩ := List.append_inj e (by simp only [List.length_append, List.length_map]; omega)
    obtain ⟨e, e6⟩ := List.append_inj e (by simp only [List.length_append, List.length_map]; omega)
    obtain ⟨e4, e5⟩ := List.append_inj e (by simp only [List.length_map]; omega)
    obtain rfl := litsB_inj e4
    obtain rfl := litsB_inj e5
    obtain rfl := litsB_inj e6
    simp only [List.cons.injEq, Lit.int.injEq, true_and, and_true] at e7
    obtain rfl := e7
    rfl
  · intro e
    have hlen : ∀ {z : tHeader.El} {zs : List Value}, tHeader.rep w S z zs → (tHeader.enc z).length < 18446744073709551616 := fun {z zs} hz => by
      obtain ⟨z0, z1, z2, z3, z4, z5, z6, z7, _⟩ := z
      obtain ⟨_, _, _, _, _, _, _, _, _, _, _, _, _, _, _, _, _, _, _, ⟨_, l4⟩, _, _, _, ⟨_, l5⟩, _, _, _, ⟨_, l6⟩, _⟩ := hz
      show (joinB [numB z0, numB z1, numB z2, numB z3, z4, z5, z6, numB z7]).length < _
      simp only [joinB_length, joinP, List.length_append, be8_length, numB_length, List.length_nil]
      omega
    have h1 := Sh.dec_enc tHeader x (Sh.rep_wf _ _ _ h) (hlen h)
    have h2 := Sh.dec_enc tHeader y (Sh.rep_wf _ _ _ h') (hlen h')
    rw [e, h2] at h1
    injection h1 with h1
    rw [h1]

/-- Two headers compared. -/
theorem run_eq_header {w w' : World} {S : Nat → Prop} {x y : tHeader.El} {cs ds : List Value} (h : tHeader.rep w S x cs) (h' : tHeader.rep w S y ds) :
    ∃ r : Bool, (Op.equal 25 (.agg cs.toArray) (.agg ds.toArray)).run Tryd.prog w' = .ok r w' ∧ (r = true ↔ tHeader.enc x = tHeader.enc y) := by
  have hfm : ∀ {z : tHeader.El} {zs : List Value}, tHeader.rep w S z zs → (Value.agg zs.toArray).formed Tryd.prog 25 = true := fun {z zs} hz => by
    have hs : zs.length = 101 := Sh.rep_size _ _ _ hz
    have hc : Tryd.prog.cellsOf 25 = 101 := by kernel_rfl
    simp only [Value.formed, Tryd.underlying25, hc, List.size_toArray, hs]
    rfl
  obtain ⟨r, hr, hi⟩ := run_equalIn_deep (P := Tryd.prog) (10000 - 5) 5 25 (by kernel_rfl) w' 5 5 (.agg cs.toArray) (.agg ds.toArray) _ _ (hfm h) (hfm h') (keyLits_header h) (keyLits_header h')
  exact ⟨r, hr, hi.trans (headLits_inj h h')⟩

end Go.Proofs.YtjjgmkfkmckkoaaDoor

/- CodecHeaders's walk. Printed by genHead.py. -/
namespace Go.Proofs.YtjjgmkfkmckkoaaDoor
open Go.RowKit Go.Maps
attribute [-simp] Tryd.isAgg23 Tryd.typeInfo23 Tryd.isAgg25 Tryd.typeInfo25

theorem header_len {w : World} {S : Nat → Prop} {x : tHeader.El} {cs : List Value} (h : tHeader.rep w S x cs) : (tHeader.enc x).length ≤ 1099511627776 := by
  obtain ⟨z0, z1, z2, z3, z4, z5, z6, z7, _⟩ := x
  obtain ⟨_, _, _, _, _, _, _, _, _, _, _, _, _, _, _, _, _, _, _, ⟨_, l4⟩, _, _, _, ⟨_, l5⟩, _, _, _, ⟨_, l6⟩, _⟩ := h
  show (joinB [numB z0, numB z1, numB z2, numB z3, z4, z5, z6, numB z7]).length ≤ _
  simp only [joinB_length, joinP, List.length_append, be8_length, numB_length, List.length_nil]
  omega
theorem run_eq_header' {w : World} {S : Nat → Prop} {x y : tHeader.El} {cs ds : List Value} {b : Bool} (h : tHeader.rep w S x cs) (h' : tHeader.rep w S y ds) (hb : b = true ↔ tHeader.enc x = tHeader.enc y) (w' : World) :
    (Op.equal 25 (.agg cs.toArray) (.agg ds.toArray)).run Tryd.prog w' = .ok b w' := by
  obtain ⟨r, hr, hi⟩ := run_eq_header (w' := w') h h'
  rw [hr]
  have : r = b := by
    cases r <;> cases b <;> simp_all
  rw [this]

theorem HoistK.eqAgg {P : Program} {ops : Array Oper} {S : World → Prop} {i : Nat} {r : List Nat} {a : Act} {K : Act → Prop} {o : Oper} (hi : ops[i]? = some o) (hw : Region.wanted o (yielded ops a.tmps) = true)
    (ty : TypeId) (x y : Operand) (t' : TypeId) (ho : o.op = .binOp .eql ty x y t') (xs ys : Array Value) (hx : a.eval x = .agg xs) (hy : a.eval y = .agg ys) (hg : P.eqGuardType P.depth ty = false) (b : Bool) (hS : ∀ w, S w → (Op.equal ty (.agg xs) (.agg ys)).run P w = .ok b w) (h : HoistK P ops S r (a.put o.dst (.bool b)) K) : HoistK P ops S (i :: r) a K :=
  ⟨o, _, hi, .inl ⟨hw, fun w hw' => by
    have e1 : (eqGuard .eql ty x y (.agg xs) (.agg ys)).run P w = .ok () w := by
      simp [eqGuard, Sem.run_bind, Sem.run_ite, run_program, hg]
    have e2 : (binOp .eql ty (.agg xs) (.agg ys)).run P w = .ok (.bool b) w := by
      show (do pure (Value.bool (← Op.equal ty (.agg xs) (.agg ys)))).run P w = _
      simp only [Sem.run_bind, hS w hw', Result.andThen_ok, Sem.run_pure]
    unfold execOp
    simp only [ho, hx, hy, Sem.run_bind, e1, e2, Result.andThen_ok, Sem.run_pure]⟩, h⟩

set_option maxHeartbeats 16000000 in
set_option maxRecDepth 100000 in
theorem lawHeaders_any (w : World) {S : Nat → Prop} {x y : tHeader.El} {cs ds : List Value} {sent : Value} (hS : ∀ b, S b → b < w.heap.size) (h : tHeader.rep w S x cs) (h' : tHeader.rep w S y ds) (h1 : ∀ u ∈ cs, u.oneCell' = true) (_h2 : ∀ u ∈ ds, u.oneCell' = true) (hp : Pk w sent) :
    Calls Tryd.prog 3 #[.agg cs.toArray, .agg ds.toArray] w fun e w' => e = .returned (.bool true) ∧ Below w.heap.size w w' := by
  have hl := header_len h
  have hcl := Sh.rep_size _ _ _ h
  have hdl := Sh.rep_size _ _ _ h'
  have HI := Lib.hid (show (Tryd.prog.info? 25).map (·.size) = some cs.length from by rw [hcl]; kernel_rfl)
  have HJ := Lib.hid (show (Tryd.prog.info? 25).map (·.size) = some ds.length from by rw [hdl]; kernel_rfl)
  have hal := (Below.refl w.heap.size w).alloc (Nat.le_refl _) (.cells cs.toArray 25)
  have hal2 := hal.alloc (by simp) (.cells ds.toArray 25)
  have hx := (Blk.new w 25 cs.toArray).alloc (.cells ds.toArray 25)
  have hy := Blk.new (w.alloc (.cells cs.toArray 25)) 25 ds.toArray
  rw [show (w.alloc (.cells cs.toArray 25)).heap.size = w.heap.size + 1 by simp] at hy
  have HG := Lib.hid (show Tryd.prog.eqGuardType Tryd.prog.depth 25 = false by kernel_rfl)
  have H := Lib.hid h
  have H' := Lib.hid h'
  have H1 := Lib.hid h1
  have HL := Lib.hid hl
  have HP := Lib.hid hp
  have HS := Lib.hid hS
  have HAL := Lib.hid hal2
  have HX := Lib.hid hx
  have HY := Lib.hid hy
  obtain ⟨xs, hxs⟩ : ∃ xs, xs = tHeader.enc x := ⟨_, rfl⟩
  have HXS := Lib.hid hxs
  by_cases heq : tHeader.enc x = tHeader.enc y
  · have HYS := Lib.hid (hxs.trans heq)
    have HEQ := Lib.hid (run_eq_header' (b := true) h h' (by simp [heq]))
    clear h h' hl hp hcl hdl hal hal2 hx hy h1 hS hxs heq
    go_enter Tryd.func3, Tryd.ntmps3
    go_wp2_with fail
    refine wp_region_segsV [([], [0]), ([1, 2], [3]), ([4, 5, 6, 7, 8, 9, 12], [10]), ([11], [13]), ([14, 15, 16, 17], [18])] (by kernel_rfl) (by kernel_rfl) (by kernel_rfl) (by kernel_rfl)
      (SegV.mk (fun w' => Blk w' w.heap.size 25 cs.toArray ∧ Blk w' (w.heap.size + 1) 25 ds.toArray) (fun _ _ => trivial) ⟨HX.out.drew, HY.out.drew⟩ ?_)
    refine HoistK.nil_ ?_
    simp only [opsAt, List.filterMap_cons, List.filterMap_nil, List.getElem?_toArray, List.getElem?_cons_zero]
    refine EffS.cons_ fun _ hQ => ?_
    go_wp2_with fail
    refine (awake_any _ (HP.out.below HAL.out.drew)).mono ?_
    rintro e w1 ⟨rfl, hb1⟩
    have hx1 := HX.out.drew.below hb1 HX.out.drew.lt
    have hy1 := HY.out.drew.below hb1 HY.out.drew.lt
    have HB1 := Lib.hid (HAL.out.drew.trans (hb1.mono HAL.out.drew.size))
    clear hb1
    go_wp2_with fail
    refine hQ _ _ ⟨hx1, hy1⟩ (EffS.nil_ (SegV.mk (fun w' => Blk w' w.heap.size 25 cs.toArray ∧ Blk w' (w.heap.size + 1) 25 ds.toArray) (fun _ h => h) ⟨hx1, hy1⟩ ?_))
    (refine HoistK.yes (by rfl) (by kernel_rfl) ⟨?_, fun w' hSw => ?_, ?_⟩; rotate_left; (· go_simp; try with_reducible rfl); simp only [Act.put, List.setIfInBounds_toArray, List.getElem_toArray, List.getElem_cons_succ, List.getElem_cons_zero, List.set_cons_succ, List.set_cons_zero])
    (refine HoistK.load (by rfl) (by kernel_rfl) 25 _ rfl w.heap.size 0 rfl cs _ (fun w' hw => hw.1.range) Tryd.underlying25 rfl HI.out ?_; simp only [Act.put, List.setIfInBounds_toArray, List.getElem_toArray, List.getElem_cons_succ, List.getElem_cons_zero, List.set_cons_succ, List.set_cons_zero])
    refine HoistK.nil_ ?_
    simp only [opsAt, List.filterMap_cons, List.filterMap_nil, List.getElem?_toArray, List.getElem?_cons_succ, List.getElem?_cons_zero]
    refine EffS.cons_ fun _ hQ => ?_
    go_wp2_with fail
    refine (lawHeader_any _ (Sh.rep_below H.out HB1.out) H1.out (fun b hb => Nat.lt_of_lt_of_le (HS.out b hb) HB1.out.size) HL.out (HP.out.below HB1.out)).mono ?_
    rintro e w2 ⟨rfl, hb2⟩
    have hx2 := hx1.below hb2 hx1.lt
    have hy2 := hy1.below hb2 hy1.lt
    have HB2 := Lib.hid (HB1.out.trans (hb2.mono HB1.out.size))
    clear hb2
    go_wp2_with fail
    refine hQ _ _ ⟨hx2, hy2⟩ (EffS.nil_ (SegV.mk (fun w' => Blk w' w.heap.size 25 cs.toArray ∧ Blk w' (w.heap.size + 1) 25 ds.toArray) (fun _ h => h) ⟨hx2, hy2⟩ ?_))
    (refine HoistK.yes (by rfl) (by kernel_rfl) ⟨?_, fun w' hSw => ?_, ?_⟩; rotate_left; (· go_simp; try with_reducible rfl); simp only [Act.put, List.setIfInBounds_toArray, List.getElem_toArray, List.getElem_cons_succ, List.getElem_cons_zero, List.set_cons_succ, List.set_cons_zero])
    (refine HoistK.yes (by rfl) (by kernel_rfl) ⟨?_, fun w' hSw => ?_, ?_⟩; rotate_left; (· go_simp; try with_reducible rfl); simp only [Act.put, List.setIfInBounds_toArray, List.getElem_toArray, List.getElem_cons_succ, List.getElem_cons_zero, List.set_cons_succ, List.set_cons_zero])
    (refine HoistK.load (by rfl) (by kernel_rfl) 25 _ rfl w.heap.size 0 rfl cs _ (fun w' hw => hw.1.range) Tryd.underlying25 rfl HI.out ?_; simp only [Act.put, List.setIfInBounds_toArray, List.getElem_toArray, List.getElem_cons_succ, List.getElem_cons_zero, List.set_cons_succ, List.set_cons_zero])
    (refine HoistK.load (by rfl) (by kernel_rfl) 25 _ rfl (w.heap.size + 1) 0 rfl ds _ (fun w' hw => hw.2.range) Tryd.underlying25 rfl HJ.out ?_; simp only [Act.put, List.setIfInBounds_toArray, List.getElem_toArray, List.getElem_cons_succ, List.getElem_cons_zero, List.set_cons_succ, List.set_cons_zero])
    (refine HoistK.eqAgg (by rfl) (by kernel_rfl) 25 _ _ _ rfl cs.toArray ds.toArray rfl rfl HG.out true (fun w' _ => HEQ.out w') ?_; simp only [Act.put, List.setIfInBounds_toArray, List.getElem_toArray, List.getElem_cons_succ, List.getElem_cons_zero, List.set_cons_succ, List.set_cons_zero])
    (refine HoistK.load (by rfl) (by kernel_rfl) 25 _ rfl w.heap.size 0 rfl cs _ (fun w' hw => hw.1.range) Tryd.underlying25 rfl HI.out ?_; simp only [Act.put, List.setIfInBounds_toArray, List.getElem_toArray, List.getElem_cons_succ, List.getElem_cons_zero, List.set_cons_succ, List.set_cons_zero])
    (refine HoistK.load (by rfl) (by kernel_rfl) 25 _ rfl (w.heap.size + 1) 0 rfl ds _ (fun w' hw => hw.2.range) Tryd.underlying25 rfl HJ.out ?_; simp only [Act.put, List.setIfInBounds_toArray, List.getElem_toArray, List.getElem_cons_succ, List.getElem_cons_zero, List.set_cons_succ, List.set_cons_zero])
    refine HoistK.nil_ ?_
    simp only [opsAt, List.filterMap_cons, List.filterMap_nil, List.getElem?_toArray, List.getElem?_cons_succ, List.getElem?_cons_zero]
    refine EffS.cons_ fun _ hQ => ?_
    go_wp2_with fail
    refine (header_any _ (Sh.rep_below H.out HB2.out)).mono ?_
    rintro e w3 ⟨v3, rfl, f3⟩
    rw [← HXS.out] at f3
    obtain ⟨A3, c3, rfl⟩ := f3.1.form
    have hx3 := hx2.below f3.2 hx2.lt
    have hy3 := hy2.below f3.2 hy2.lt
    have HB3 := Lib.hid (HB2.out.trans (f3.2.mono HB2.out.size))
    have hf3 := f3.1.sub (T := fun _ => True) fun _ _ _ => trivial
    clear f3
    go_wp2_with fail
    refine hQ _ _ ⟨hx3, hy3⟩ (EffS.nil_ (SegV.mk (fun w' => (Blk w' w.heap.size 25 cs.toArray ∧ Blk w' (w.heap.size + 1) 25 ds.toArray) ∧ Bs w' (fun _ => True) (.slice A3 xs.length c3) xs) (fun _ h => h.1) ⟨⟨hx3, hy3⟩, hf3⟩ ?_))
    (refine HoistK.yes (by rfl) (by kernel_rfl) ⟨?_, fun w' hSw => ?_, ?_⟩; rotate_left; (· have e1 := run_str hSw.2 Tryd.underlying28 Tryd.underlying5 Tryd.underlying9; go_simp; try with_reducible rfl); simp only [Act.put, List.setIfInBounds_toArray, List.getElem_toArray, List.getElem_cons_succ, List.getElem_cons_zero, List.set_cons_succ, List.set_cons_zero])
    refine HoistK.nil_ ?_
    simp only [opsAt, List.filterMap_cons, List.filterMap_nil, List.getElem?_toArray, List.getElem?_cons_succ, List.getElem?_cons_zero]
    refine EffS.cons_ fun _ hQ => ?_
    go_wp2_with fail
    refine (header_any _ (Sh.rep_below H'.out HB3.out)).mono ?_
    rintro e w4 ⟨v4, rfl, f4⟩
    rw [← HYS.out] at f4
    obtain ⟨A4, c4, rfl⟩ := f4.1.form
    have hx4 := hx3.below f4.2 hx3.lt
    have hy4 := hy3.below f4.2 hy3.lt
    have HB4 := Lib.hid (HB3.out.trans (f4.2.mono HB3.out.size))
    have hf34 := hf3.below f4.2
    have hf4 := f4.1.sub (T := fun _ => True) fun _ _ _ => trivial
    clear f4
    go_wp2_with fail
    refine hQ _ _ ⟨⟨hx4, hy4⟩, hf34⟩ (EffS.nil_ (SegV.mk (fun w' => ((Blk w' w.heap.size 25 cs.toArray ∧ Blk w' (w.heap.size + 1) 25 ds.toArray) ∧ Bs w' (fun _ => True) (.slice A3 xs.length c3) xs) ∧ Bs w' (fun _ => True) (.slice A4 xs.length c4) xs) (fun _ h => h.1) ⟨⟨⟨hx4, hy4⟩, hf34⟩, hf4⟩ ?_))
    (refine HoistK.yes (by rfl) (by kernel_rfl) ⟨?_, fun w' hSw => ?_, ?_⟩; rotate_left; (· have e1 := run_str hSw.2 Tryd.underlying28 Tryd.underlying5 Tryd.underlying9; go_simp; try with_reducible rfl); simp only [Act.put, List.setIfInBounds_toArray, List.getElem_toArray, List.getElem_cons_succ, List.getElem_cons_zero, List.set_cons_succ, List.set_cons_zero])
    (refine HoistK.yes (by rfl) (by kernel_rfl) ⟨?_, fun w' hSw => ?_, ?_⟩; rotate_left; (· go_simp; try with_reducible rfl); simp only [Act.put, List.setIfInBounds_toArray, List.getElem_toArray, List.getElem_cons_succ, List.getElem_cons_zero, List.set_cons_succ, List.set_cons_zero])
    (refine HoistK.yes (by rfl) (by kernel_rfl) ⟨?_, fun w' hSw => ?_, ?_⟩; rotate_left; (· go_simp; try with_reducible rfl); simp only [Act.put, List.setIfInBounds_toArray, List.getElem_toArray, List.getElem_cons_succ, List.getElem_cons_zero, List.set_cons_succ, List.set_cons_zero])
    (refine HoistK.yes (by rfl) (by kernel_rfl) ⟨?_, fun w' hSw => ?_, ?_⟩; rotate_left; (· go_simp; try with_reducible rfl); simp only [Act.put, List.setIfInBounds_toArray, List.getElem_toArray, List.getElem_cons_succ, List.getElem_cons_zero, List.set_cons_succ, List.set_cons_zero])
    refine HoistK.nil_ ?_
    simp only [opsAt, List.filterMap_cons, List.filterMap_nil, List.getElem?_toArray, List.getElem?_cons_succ, List.getElem?_cons_zero]
    refine EffS.cons_ fun _ hQ => ?_
    go_wp2_with fail
    refine hQ _ _ ⟨⟨⟨hx4, hy4⟩, hf34⟩, hf4⟩ (EffS.nil_ fun _ hQ => ?_)
    go_wp2_with fail
    go_ret
    exact ⟨rfl, HB4.out⟩
  · obtain ⟨ys, hys⟩ : ∃ ys, ys = tHeader.enc y := ⟨_, rfl⟩
    have HYS := Lib.hid hys
    have HEQ := Lib.hid (run_eq_header' (b := false) h h' (by simp [heq]))
    have hne : ((str xs).toList == (str ys).toList) = false := beq_eq_false_iff_ne.2 fun e => heq (by
      rw [← hxs, ← hys]
      rw [ByteArray.toList_eq, ByteArray.toList_eq] at e
      simpa [str] using e)
    have HNE := Lib.hid hne
    clear h h' hl hp hcl hdl hal hal2 hx hy h1 hS hxs heq hne hys
    go_enter Tryd.func3, Tryd.ntmps3
    go_wp2_with fail
    refine wp_region_segsV [([], [0]), ([1, 2], [3]), ([4, 5, 6, 7, 8, 9, 12], [10]), ([11], [13]), ([14, 15, 16, 17], [18])] (by kernel_rfl) (by kernel_rfl) (by kernel_rfl) (by kernel_rfl)
      (SegV.mk (fun w' => Blk w' w.heap.size 25 cs.toArray ∧ Blk w' (w.heap.size + 1) 25 ds.toArray) (fun _ _ => trivial) ⟨HX.out.drew, HY.out.drew⟩ ?_)
    refine HoistK.nil_ ?_
    simp only [opsAt, List.filterMap_cons, List.filterMap_nil, List.getElem?_toArray, List.getElem?_cons_zero]
    refine EffS.cons_ fun _ hQ => ?_
    go_wp2_with fail
    refine (awake_any _ (HP.out.below HAL.out.drew)).mono ?_
    rintro e w1 ⟨rfl, hb1⟩
    have hx1 := HX.out.drew.below hb1 HX.out.drew.lt
    have hy1 := HY.out.drew.below hb1 HY.out.drew.lt
    have HB1 := Lib.hid (HAL.out.drew.trans (hb1.mono HAL.out.drew.size))
    clear hb1
    go_wp2_with fail
    refine hQ _ _ ⟨hx1, hy1⟩ (EffS.nil_ (SegV.mk (fun w' => Blk w' w.heap.size 25 cs.toArray ∧ Blk w' (w.heap.size + 1) 25 ds.toArray) (fun _ h => h) ⟨hx1, hy1⟩ ?_))
    (refine HoistK.yes (by rfl) (by kernel_rfl) ⟨?_, fun w' hSw => ?_, ?_⟩; rotate_left; (· go_simp; try with_reducible rfl); simp only [Act.put, List.setIfInBounds_toArray, List.getElem_toArray, List.getElem_cons_succ, List.getElem_cons_zero, List.set_cons_succ, List.set_cons_zero])
    (refine HoistK.load (by rfl) (by kernel_rfl) 25 _ rfl w.heap.size 0 rfl cs _ (fun w' hw => hw.1.range) Tryd.underlying25 rfl HI.out ?_; simp only [Act.put, List.setIfInBounds_toArray, List.getElem_toArray, List.getElem_cons_succ, List.getElem_cons_zero, List.set_cons_succ, List.set_cons_zero])
    refine HoistK.nil_ ?_
    simp only [opsAt, List.filterMap_cons, List.filterMap_nil, List.getElem?_toArray, List.getElem?_cons_succ, List.getElem?_cons_zero]
    refine EffS.cons_ fun _ hQ => ?_
    go_wp2_with fail
    refine (lawHeader_any _ (Sh.rep_below H.out HB1.out) H1.out (fun b hb => Nat.lt_of_lt_of_le (HS.out b hb) HB1.out.size) HL.out (HP.out.below HB1.out)).mono ?_
    rintro e w2 ⟨rfl, hb2⟩
    have hx2 := hx1.below hb2 hx1.lt
    have hy2 := hy1.below hb2 hy1.lt
    have HB2 := Lib.hid (HB1.out.trans (hb2.mono HB1.out.size))
    clear hb2
    go_wp2_with fail
    refine hQ _ _ ⟨hx2, hy2⟩ (EffS.nil_ (SegV.mk (fun w' => Blk w' w.heap.size 25 cs.toArray ∧ Blk w' (w.heap.size + 1) 25 ds.toArray) (fun _ h => h) ⟨hx2, hy2⟩ ?_))
    (refine HoistK.yes (by rfl) (by kernel_rfl) ⟨?_, fun w' hSw => ?_, ?_⟩; rotate_left; (· go_simp; try with_reducible rfl); simp only [Act.put, List.setIfInBounds_toArray, List.getElem_toArray, List.getElem_cons_succ, List.getElem_cons_zero, List.set_cons_succ, List.set_cons_zero])
    (refine HoistK.yes (by rfl) (by kernel_rfl) ⟨?_, fun w' hSw => ?_, ?_⟩; rotate_left; (· go_simp; try with_reducible rfl); simp only [Act.put, List.setIfInBounds_toArray, List.getElem_toArray, List.getElem_cons_succ, List.getElem_cons_zero, List.set_cons_succ, List.set_cons_zero])
    (refine HoistK.load (by rfl) (by kernel_rfl) 25 _ rfl w.heap.size 0 rfl cs _ (fun w' hw => hw.1.range) Tryd.underlying25 rfl HI.out ?_; simp only [Act.put, List.setIfInBounds_toArray, List.getElem_toArray, List.getElem_cons_succ, List.getElem_cons_zero, List.set_cons_succ, List.set_cons_zero])
    (refine HoistK.load (by rfl) (by kernel_rfl) 25 _ rfl (w.heap.size + 1) 0 rfl ds _ (fun w' hw => hw.2.range) Tryd.underlying25 rfl HJ.out ?_; simp only [Act.put, List.setIfInBounds_toArray, List.getElem_toArray, List.getElem_cons_succ, List.getElem_cons_zero, List.set_cons_succ, List.set_cons_zero])
    (refine HoistK.eqAgg (by rfl) (by kernel_rfl) 25 _ _ _ rfl cs.toArray ds.toArray rfl rfl HG.out false (fun w' _ => HEQ.out w') ?_; simp only [Act.put, List.setIfInBounds_toArray, List.getElem_toArray, List.getElem_cons_succ, List.getElem_cons_zero, List.set_cons_succ, List.set_cons_zero])
    (refine HoistK.load (by rfl) (by kernel_rfl) 25 _ rfl w.heap.size 0 rfl cs _ (fun w' hw => hw.1.range) Tryd.underlying25 rfl HI.out ?_; simp only [Act.put, List.setIfInBounds_toArray, List.getElem_toArray, List.getElem_cons_succ, List.getElem_cons_zero, List.set_cons_succ, List.set_cons_zero])
    (refine HoistK.load (by rfl) (by kernel_rfl) 25 _ rfl (w.heap.size + 1) 0 rfl ds _ (fun w' hw => hw.2.range) Tryd.underlying25 rfl HJ.out ?_; simp only [Act.put, List.setIfInBounds_toArray, List.getElem_toArray, List.getElem_cons_succ, List.getElem_cons_zero, List.set_cons_succ, List.set_cons_zero])
    refine HoistK.nil_ ?_
    simp only [opsAt, List.filterMap_cons, List.filterMap_nil, List.getElem?_toArray, List.getElem?_cons_succ, List.getElem?_cons_zero]
    refine EffS.cons_ fun _ hQ => ?_
    go_wp2_with fail
    refine (header_any _ (Sh.rep_below H.out HB2.out)).mono ?_
    rintro e w3 ⟨v3, rfl, f3⟩
    rw [← HXS.out] at f3
    obtain ⟨A3, c3, rfl⟩ := f3.1.form
    have hx3 := hx2.below f3.2 hx2.lt
    have hy3 := hy2.below f3.2 hy2.lt
    have HB3 := Lib.hid (HB2.out.trans (f3.2.mono HB2.out.size))
    have hf3 := f3.1.sub (T := fun _ => True) fun _ _ _ => trivial
    clear f3
    go_wp2_with fail
    refine hQ _ _ ⟨hx3, hy3⟩ (EffS.nil_ (SegV.mk (fun w' => (Blk w' w.heap.size 25 cs.toArray ∧ Blk w' (w.heap.size + 1) 25 ds.toArray) ∧ Bs w' (fun _ => True) (.slice A3 xs.length c3) xs) (fun _ h => h.1) ⟨⟨hx3, hy3⟩, hf3⟩ ?_))
    (refine HoistK.yes (by rfl) (by kernel_rfl) ⟨?_, fun w' hSw => ?_, ?_⟩; rotate_left; (· have e1 := run_str hSw.2 Tryd.underlying28 Tryd.underlying5 Tryd.underlying9; go_simp; try with_reducible rfl); simp only [Act.put, List.setIfInBounds_toArray, List.getElem_toArray, List.getElem_cons_succ, List.getElem_cons_zero, List.set_cons_succ, List.set_cons_zero])
    refine HoistK.nil_ ?_
    simp only [opsAt, List.filterMap_cons, List.filterMap_nil, List.getElem?_toArray, List.getElem?_cons_succ, List.getElem?_cons_zero]
    refine EffS.cons_ fun _ hQ => ?_
    go_wp2_with fail
    refine (header_any _ (Sh.rep_below H'.out HB3.out)).mono ?_
    rintro e w4 ⟨v4, rfl, f4⟩
    rw [← HYS.out] at f4
    obtain ⟨A4, c4, rfl⟩ := f4.1.form
    have hx4 := hx3.below f4.2 hx3.lt
    have hy4 := hy3.below f4.2 hy3.lt
    have HB4 := Lib.hid (HB3.out.trans (f4.2.mono HB3.out.size))
    have hf34 := hf3.below f4.2
    have hf4 := f4.1.sub (T := fun _ => True) fun _ _ _ => trivial
    clear f4
    go_wp2_with fail
    refine hQ _ _ ⟨⟨hx4, hy4⟩, hf34⟩ (EffS.nil_ (SegV.mk (fun w' => ((Blk w' w.heap.size 25 cs.toArray ∧ Blk w' (w.heap.size + 1) 25 ds.toArray) ∧ Bs w' (fun _ => True) (.slice A3 xs.length c3) xs) ∧ Bs w' (fun _ => True) (.slice A4 ys.length c4) ys) (fun _ h => h.1) ⟨⟨⟨hx4, hy4⟩, hf34⟩, hf4⟩ ?_))
    (refine HoistK.yes (by rfl) (by kernel_rfl) ⟨?_, fun w' hSw => ?_, ?_⟩; rotate_left; (· have e1 := run_str hSw.2 Tryd.underlying28 Tryd.underlying5 Tryd.underlying9; go_simp; try with_reducible rfl); simp only [Act.put, List.setIfInBounds_toArray, List.getElem_toArray, List.getElem_cons_succ, List.getElem_cons_zero, List.set_cons_succ, List.set_cons_zero])
    (refine HoistK.yes (by rfl) (by kernel_rfl) ⟨?_, fun w' hSw => ?_, ?_⟩; rotate_left; (· have n1 := HNE.out; go_simp; try with_reducible rfl); simp only [Act.put, List.setIfInBounds_toArray, List.getElem_toArray, List.getElem_cons_succ, List.getElem_cons_zero, List.set_cons_succ, List.set_cons_zero])
    (refine HoistK.yes (by rfl) (by kernel_rfl) ⟨?_, fun w' hSw => ?_, ?_⟩; rotate_left; (· go_simp; try with_reducible rfl); simp only [Act.put, List.setIfInBounds_toArray, List.getElem_toArray, List.getElem_cons_succ, List.getElem_cons_zero, List.set_cons_succ, List.set_cons_zero])
    (refine HoistK.yes (by rfl) (by kernel_rfl) ⟨?_, fun w' hSw => ?_, ?_⟩; rotate_left; (· go_simp; try with_reducible rfl); simp only [Act.put, List.setIfInBounds_toArray, List.getElem_toArray, List.getElem_cons_succ, List.getElem_cons_zero, List.set_cons_succ, List.set_cons_zero])
    refine HoistK.nil_ ?_
    simp only [opsAt, List.filterMap_cons, List.filterMap_nil, List.getElem?_toArray, List.getElem?_cons_succ, List.getElem?_cons_zero]
    refine EffS.cons_ fun _ hQ => ?_
    go_wp2_with fail
    refine hQ _ _ ⟨⟨⟨hx4, hy4⟩, hf34⟩, hf4⟩ (EffS.nil_ fun _ hQ => ?_)
    go_wp2_with fail
    go_ret
    exact ⟨rfl, HB4.out⟩
end Go.Proofs.YtjjgmkfkmckkoaaDoor
