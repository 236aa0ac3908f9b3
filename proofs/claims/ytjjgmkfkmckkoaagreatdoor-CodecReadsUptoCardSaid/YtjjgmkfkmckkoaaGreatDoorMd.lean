/- Texts joined: CgL CrH CtK CuC CfS CfU CgM CrI CtM CuD CfL CfW. -/
import Derived.Test.YtjjgmkfkmckkoaaGreatDoorMb
import Derived.Test.YtjjgmkfkmckkoaaGreatDoorMc
import Derived.Test.YtjjgmkfkmckkoaaGreatDoorMa
namespace Go.Proofs.YtjjgmkfkmckkoaaGreatDoor
open List (setIfInBounds_toArray getElem_toArray getElem_cons_succ getElem_cons_zero set_cons_succ set_cons_zero filterMap_cons filterMap_nil getElem?_toArray getElem?_cons_succ getElem?_cons_zero)
section
open Go.RowKit Go.Maps
attribute [-simp] Tryz.isAgg36 Tryz.typeInfo36 Tryz.isAgg54 Tryz.typeInfo54
def zFCommit : List Value := ([.slice none 0 0] ++ ([.int .i64 0, .int .i64 0, .int .i64 0] ++ List.replicate 32 (.int .u8 0) ++ [.slice none 0 0, .slice none 0 0]) : List Value)
set_option maxRecDepth 100000 in
theorem one_faceCommit : ∀ v ∈ zFCommit, v.oneCell' = true := by decide
set_option maxRecDepth 100000 in
theorem len_faceCommit : zFCommit.length = 38 := by decide
theorem size_faceCommit : (Tryz.prog.info? 54).map (·.size) = some zFCommit.length := by kernel_rfl
set_option maxHeartbeats 8000000 in
set_option maxRecDepth 100000 in
theorem faceCommit_any (w : World) {S : Nat → Prop} {v sent : Value} {bs : List UInt8} (h : Bs w S v bs) (hp : Pk w sent) :
    Calls Tryz.prog 56 #[v, .func (Fn.func 57) #[] #[]] w (FaceOutN tCommit zFCommit w bs) := by
  obtain ⟨A, cap, rfl⟩ := h.form
  have hal1 := (Below.refl w.heap.size w).alloc (Nat.le_refl _) (.cells (zFCommit).toArray 54)
  have hal2 := hal1.alloc (by simp) (.cells (zFCommit).toArray 54)
  have hr0 := (Blk.new w 54 (zFCommit).toArray).alloc (.cells (zFCommit).toArray 54)
  have hz0 := Blk.new (w.alloc (.cells (zFCommit).toArray 54)) 54 (zFCommit).toArray
  rw [show (w.alloc (.cells (zFCommit).toArray 54)).heap.size = w.heap.size + 1 by simp] at hz0
  by_cases hbig : 262144 < bs.length
  · obtain ⟨sb, hsb⟩ : ∃ sb, w.cell? ⟨0, 0, none⟩ = some (.iface 237 (.pointer (some sb))) := by
      obtain ⟨_, _, b, _, _, _, _, _, _, _, _, h, _⟩ := hp
      exact ⟨b, h⟩
    have hgb : ∀ {W : World}, Below w.heap.size w W → W.cell? ⟨0, 0, none⟩ = some (.iface 237 (.pointer (some sb))) := fun hb => cell_low hsb hb
    clear h
    go_enter Tryz.func56, Tryz.ntmps56
    go_wp2_with fail
    have hb := hal2.drew
    have hr : Blk _ _ _ _ := hr0.drew
    have hz : Blk _ _ _ _ := hz0.drew
    clear hal1 hal2 hz0 hsb
    refine wp_region_hoist [0, 1, 2] [3, 4, 5] [6, 7] (fun w' => Blk w' (w.heap.size + 1) 54 (zFCommit).toArray ∧ w'.cell? ⟨0, 0, none⟩ = some (.iface 237 (.pointer (some sb)))) (by kernel_rfl) (by kernel_rfl) (by kernel_rfl) (by kernel_rfl) (by kernel_rfl) (by kernel_rfl) ⟨hz, hgb hb⟩ ?_
    (refine HoistK.load (by rfl) (by kernel_rfl) 54 _ rfl (w.heap.size + 1) 0 rfl zFCommit _ (fun w' hw => hw.1.range) Tryz.underlying54 rfl size_faceCommit ?_; simp only [Act.put, setIfInBounds_toArray, getElem_toArray, getElem_cons_zero, set_cons_succ, set_cons_zero])
    (refine HoistK.yes (by rfl) (by kernel_rfl) ⟨?_, fun w' hSw => ?_, ?_⟩; rotate_left; (· have hcc := hSw.2; go_simp; try with_reducible rfl); simp only [Act.put, setIfInBounds_toArray, getElem_toArray, getElem_cons_succ, getElem_cons_zero, set_cons_succ, set_cons_zero])
    (refine HoistK.yes (by rfl) (by kernel_rfl) ⟨?_, fun w' hSw => ?_, ?_⟩; rotate_left; (· go_simp; try with_reducible rfl); simp only [Act.put, setIfInBounds_toArray, getElem_toArray, getElem_cons_succ, getElem_cons_zero, set_cons_succ, set_cons_zero])
    refine HoistK.nil_ ?_
    simp only [opsAt, filterMap_cons, filterMap_nil, getElem?_toArray, getElem?_cons_succ, getElem?_cons_zero]
    refine Effects.world (F := fun W => Below w.heap.size w W ∧ Blk W w.heap.size 54 (zFCommit).toArray ∧ Blk W (w.heap.size + 1) 54 (zFCommit).toArray) (fun W hF => ?_) ⟨hb, hr, hz⟩
    clear hb hr hz hr0
    obtain ⟨hb, hr, hz⟩ := hF
    refine Effects.cons_ fun _ hQ => ?_
    have hzl := hz.lt
    go_wp2_with fail
    have hk := Blk.new W 158 #[.string ⟨#[97, 108, 108]⟩, .iface 237 (.pointer (some sb))]
    replace hb := hb.alloc hb.size (.cells #[.string ⟨#[97, 108, 108]⟩, .iface 237 (.pointer (some sb))] 158)
    replace hr := hr.alloc (.cells #[.string ⟨#[97, 108, 108]⟩, .iface 237 (.pointer (some sb))] 158)
    replace hz := hz.alloc (.cells #[.string ⟨#[97, 108, 108]⟩, .iface 237 (.pointer (some sb))] 158)
    obtain ⟨gg, hgg⟩ : ∃ gg, gg = W.heap.size := ⟨_, rfl⟩
    have hgn : gg ≠ w.heap.size := by omega
    rw [← hgg] at hk ⊢
    have HGG := Lib.hid hgg; clear hgg
    generalize W.alloc (.cells #[.string ⟨#[97, 108, 108]⟩, .iface 237 (.pointer (some sb))] 158) = W1 at *
    refine hQ _ _ ⟨hz, hgb hb⟩ (Effects.cons_ fun _ hQ => ?_)
    go_wp2_with fail
    refine hQ _ _ ⟨hz, hgb hb⟩ (Effects.cons_ fun _ hQ => ?_)
    go_wp2_with fail
    refine (told_any (r := true) _ (hp.below hb) ⟨gg, 1, _, rfl, .more hk .last, hgb hb⟩).mono ?_
    rintro e W2 ⟨rfl, hb2⟩
    replace hb := hb.trans (hb2.mono hb.size)
    replace hr := hr.below hb2 hr.lt
    replace hz := hz.below hb2 hz.lt
    replace hk := hk.below hb2 hk.lt
    go_wp2_with fail
    refine hQ _ _ ⟨hz, hgb hb⟩ (Effects.nil_ fun _ hQ => ?_)
    refine wpList_store_blk (cs0 := zFCommit) (cs := zFCommit) rfl 54 _ _ rfl hr rfl rfl rfl size_faceCommit one_faceCommit ?_
    intro W3 hr3 hc3
    go_wp2_with fail
    replace hb := hb.trans (hc3.below hb.size fun b h => Nat.le_of_eq h.symm)
    have hld := run_loadVar_mid (P := Tryz.prog) _ w.heap.size 0 54 zFCommit _ hr3.range Tryz.underlying54 rfl size_faceCommit
    exact bodyPost_ret (v := .tuple #[.agg (zFCommit).toArray, .int .i64 4]) (by simp [results, Tryz.results56, asAddr, hld]) rfl ⟨hb, _, 4, rfl, len_faceCommit, one_faceCommit, .inl ⟨hbig, rfl, rfl⟩⟩
  · have hlen : bs.length ≤ 262144 := by omega
    have HR := Lib.hid (readCommit_any _ (h.below hal2) hlen (hp.1.below hal2))
    have HA := Lib.hid hal2
    have HR0 := Lib.hid hr0
    have HZ0 := Lib.hid hz0
    clear h hal1 hal2 hr0 hz0
    go_enter Tryz.func56, Tryz.ntmps56
    go_wp2_with fail
    refine HR.out.mono ?_
    rintro e w2 hro
    obtain ⟨C, err, bd, rfl, h1, hl, hb2, he, ho⟩ := hro.agg (fun _ => rfl)
    have hl : C.length = 38 := hl
    have HL := Lib.hid hl
    have HI := Lib.hid (show (Tryz.prog.info? 54).map (·.size) = some C.length from by rw [hl]; rw [size_faceCommit, len_faceCommit])
    have H1 := Lib.hid h1
    have HK := Lib.hid (HR0.out.below hb2 HR0.out.lt)
    have HZ := Lib.hid (HZ0.out.below hb2 HZ0.out.lt)
    have hz2 : w.heap.size + 2 ≤ w2.heap.size := by have := hb2.size; simpa using this
    have HB2 := Lib.hid (HA.out.trans (hb2.mono HA.out.size))
    have HO := Lib.hid (show SOut tCommit w2 (Nw (w.heap.size + 2) w2) bs C false bd from ho.nw (fun b _ hlt => ⟨hlt, rfl⟩) (by simp))
    have he := he.to (w' := w2) (S' := fun b => w.heap.size + 2 ≤ b) (fun b _ hlt => ⟨hlt, rfl⟩) fun b hb _ => by simpa using hb
    clear hro h1 hl hb2 ho HR HA HR0 HZ0
    rcases he with ⟨rfl, rfl⟩ | ⟨rfl, hch⟩
    · go_wp2_with (first
        | (refine wpList_store_blk (cs0 := zFCommit) (cs := C) rfl 54 _ _ rfl (Blk.new w2 _ _) rfl rfl (by rw [HL.out]; exact len_faceCommit) HI.out H1.out ?_; intro w3 hb3 hc3; have HB3 := Lib.hid hb3
           have HC3 := Lib.hid (show Chg (fun _ => False) w2 w3 from ((Chg.refl _ w2).alloc _).trans hc3 fun b h => .inr (Nat.le_of_eq h.symm)); clear hb3 hc3
           have HK3 := Lib.hid (HK.out.chg HC3.out id))
        | (refine wpList_load_blk' rfl 54 _ rfl HB3.out rfl Tryz.underlying54 rfl HI.out ?_)
        | (refine wpList_store_blk (cs0 := zFCommit) (cs := C) rfl 54 _ _ rfl HK3.out rfl rfl (by rw [HL.out]; exact len_faceCommit) HI.out H1.out ?_; intro w9 hb9 hc9; have HB9 := Lib.hid hb9; have HC9 := Lib.hid hc9; clear hb9 hc9))
      have hld := run_loadVar_mid (P := Tryz.prog) w9 w.heap.size 0 54 C _ HB9.out.range Tryz.underlying54 rfl HI.out
      refine bodyPost_ret (v := .tuple #[.agg C.toArray, .int .i64 0]) (by simp [results, Tryz.results56, asAddr, hld]) rfl ?_
      obtain ⟨o1, o2, o3⟩ := HO.out
      have hc29 : Chg (fun b => b = w.heap.size) w2 w9 := (HC3.out.mono (M' := fun b => b = w.heap.size) fun _ h => h.elim).trans HC9.out fun b h => .inl h
      refine ⟨HB2.out.trans (hc29.below HB2.out.size fun b h => Nat.le_of_eq h.symm), C, 0, rfl, o1, o2, .inr ⟨hlen, .inl ?_⟩⟩
      rcases o3 with ⟨x, e1, _, e3⟩ | ⟨_, e2⟩
      · exact ⟨x, e1, rfl, Sh.rep_to (fun b hb hlt => ⟨ltle hlt hc29.size, hc29.block b hlt fun e => by have := hb.1; omega⟩) (fun b hb hlt => hb.to (by omega) (hc29.block b hlt fun e => by have := hb.1; omega)) _ _ _ e3⟩
      · cases e2
    · obtain ⟨gw, rfl⟩ := hch.form
      have HCH := Lib.hid hch; clear hch
      have hno : Sh.dec tCommit bs = none := by
        obtain ⟨_, _, o3⟩ := HO.out
        rcases o3 with ⟨x, _, e2, _⟩ | ⟨e1, _⟩
        · cases e2
        · exact e1
      have HNO := Lib.hid hno; clear hno
      go_wp2_with (refine wpList_store_blk (cs0 := zFCommit) (cs := C) rfl 54 _ _ rfl (Blk.new w2 _ _) rfl rfl (by rw [HL.out]; exact len_faceCommit) HI.out H1.out ?_; intro w3 hb3 hc3; have HC3 := Lib.hid (show Chg (fun _ => False) w2 w3 from ((Chg.refl _ w2).alloc _).trans hc3 fun b h => .inr (Nat.le_of_eq h.symm)); clear hb3 hc3)
      have hr : Blk _ _ _ _ := (HK.out.chg HC3.out id).drew
      have hz : Blk _ _ _ _ := (HZ.out.chg HC3.out id).drew
      have hb := (HB2.out.trans (HC3.out.below HB2.out.size fun b h => h.elim)).drew
      have hch3 := HCH.out.to (w' := w3.drew) (S' := fun b => w.heap.size + 2 ≤ b) (fun b hb hlt => ⟨ltle hlt HC3.out.size, HC3.out.block b hlt id⟩) fun b hb _ => hb
      have hz3 : w.heap.size + 2 ≤ w3.drew.heap.size := Nat.le_trans hz2 HC3.out.size
      refine wp_region_hoist [0, 1] [2] [3, 4] (fun w' => Blk w' (w.heap.size + 1) 54 (zFCommit).toArray) (by kernel_rfl) (by kernel_rfl) (by kernel_rfl) (by kernel_rfl) (by kernel_rfl) (by kernel_rfl) hz ?_
      (refine HoistK.load (by rfl) (by kernel_rfl) 54 _ rfl (w.heap.size + 1) 0 rfl zFCommit _ (fun w' hw => hw.range) Tryz.underlying54 rfl size_faceCommit ?_; simp only [Act.put, setIfInBounds_toArray, getElem_toArray, getElem_cons_zero, set_cons_succ, set_cons_zero])
      (refine HoistK.yes (by rfl) (by kernel_rfl) ⟨?_, fun w' hSw => ?_, ?_⟩; rotate_left; (· go_simp; try with_reducible rfl); simp only [Act.put, setIfInBounds_toArray, getElem_toArray, getElem_cons_succ, getElem_cons_zero, set_cons_succ, set_cons_zero])
      refine HoistK.nil_ ?_
      simp only [opsAt, filterMap_cons, filterMap_nil, getElem?_toArray, getElem?_cons_succ, getElem?_cons_zero]
      refine Effects.world (F := fun W => Below w.heap.size w W ∧ Blk W w.heap.size 54 (zFCommit).toArray ∧ Blk W (w.heap.size + 1) 54 (zFCommit).toArray ∧ Chain W (fun b => w.heap.size + 2 ≤ b) sent (.iface 154 (.pointer (some ⟨gw, 0, none⟩)))) (fun W hF => ?_) ⟨hb, hr, hz, hch3⟩
      clear hb hr hz hch3 hz3
      obtain ⟨hb, hr, hz, hch⟩ := hF
      refine Effects.cons_ fun _ hQ => ?_
      go_wp2_with fail
      refine (told_any (r := false) _ (hp.below hb) (Wr.of_chain hch)).mono ?_
      rintro e W2 ⟨rfl, hb2⟩
      replace hb := hb.trans (hb2.mono hb.size)
      replace hr := hr.below hb2 hr.lt
      replace hz := hz.below hb2 hz.lt
      go_wp2_with fail
      refine hQ _ _ hz (Effects.nil_ fun _ hQ => ?_)
      refine wpList_store_blk (cs0 := zFCommit) (cs := zFCommit) rfl 54 _ _ rfl hr rfl rfl rfl size_faceCommit one_faceCommit ?_
      intro W3 hr3 hc3
      go_wp2_with fail
      replace hb := hb.trans (hc3.below hb.size fun b h => Nat.le_of_eq h.symm)
      have hld := run_loadVar_mid (P := Tryz.prog) _ w.heap.size 0 54 zFCommit _ hr3.range Tryz.underlying54 rfl size_faceCommit
      exact bodyPost_ret (v := .tuple #[.agg (zFCommit).toArray, .int .i64 5]) (by simp [results, Tryz.results56, asAddr, hld]) rfl ⟨hb, _, 5, rfl, len_faceCommit, one_faceCommit, .inr ⟨hlen, .inr ⟨HNO.out, rfl, rfl⟩⟩⟩
set_option maxHeartbeats 4000000 in
set_option maxRecDepth 100000 in
theorem ReadCommit_anyN (w : World) {S : Nat → Prop} {v sent : Value} {bs : List UInt8} (h : Bs w S v bs) (hp : Pk w sent) :
    Calls Tryz.prog 14 #[v] w (FaceOutN tCommit zFCommit w bs) := by
  have hal1 := (Below.refl w.heap.size w).alloc (Nat.le_refl _) (.cells (zFCommit).toArray 54)
  have HF := Lib.hid (faceCommit_any _ (h.below hal1) (hp.below hal1))
  have HR := Lib.hid (Blk.new w 54 (zFCommit).toArray)
  have HA := Lib.hid hal1
  obtain ⟨A, cap, rfl⟩ := h.form
  clear h hp hal1
  go_enter Tryz.func14, Tryz.ntmps14
  go_wp2_with fail
  refine HF.out.mono ?_
  rintro e w1 ⟨hb, C, n, rfl, hl, h1, hn⟩
  have hl : C.length = 38 := hl
  have HL := Lib.hid hl
  have HI := Lib.hid (show (Tryz.prog.info? 54).map (·.size) = some C.length from by rw [hl]; rw [size_faceCommit, len_faceCommit])
  have H1 := Lib.hid h1
  have hlz : (zFCommit).length = C.length := by rw [hl, len_faceCommit]
  have HLZ := Lib.hid hlz
  have HK := Lib.hid (HR.out.below hb (by simp))
  have HB := Lib.hid hb
  have HN := Lib.hid hn
  have hz1 : w.heap.size + 1 ≤ w1.heap.size := by have := hb.size; simpa using this
  clear hl h1 hlz hb hn HF HR
  go_wp2_with (refine wpList_store_blk (cs0 := zFCommit) (cs := C) rfl 54 _ _ rfl HK.out rfl rfl HLZ.out HI.out H1.out ?_; intro w9 hb9 hc9; have HB9 := Lib.hid hb9; have HC9 := Lib.hid hc9; clear hb9 hc9)
  have hld := run_loadVar_mid (P := Tryz.prog) w9 w.heap.size 0 54 C _ HB9.out.range Tryz.underlying54 rfl HI.out
  refine bodyPost_ret (v := .tuple #[.agg C.toArray, .int .i64 n]) (by simp [results, Tryz.results14, asAddr, hld]) rfl ?_
  have hbw := HA.out.trans (HB.out.mono HA.out.size)
  refine ⟨hbw.trans (HC9.out.below hbw.size fun b h => Nat.le_of_eq h.symm), C, n, rfl, HL.out, H1.out, HN.out.imp id fun ⟨q1, q2⟩ => ⟨q1, q2.imp (fun ⟨x, e1, e2, e3⟩ => ⟨x, e1, e2, ?_⟩) id⟩⟩
  exact Sh.rep_to (fun b hb hlt => ⟨ltle hlt HC9.out.size, HC9.out.block b hlt fun e => by have hb := hb.1; simp at hb; omega⟩) (fun b hb hlt => hb.to (by simp) (HC9.out.block b hlt fun e => by have hb := hb.1; simp at hb; omega)) _ _ _ e3
theorem ReadCommit_any (w : World) {S : Nat → Prop} {v sent : Value} {bs : List UInt8} (h : Bs w S v bs) (hp : Pk w sent) :
    Calls Tryz.prog 14 #[v] w (FaceOut tCommit w bs) :=
  (ReadCommit_anyN w h hp).mono fun _ _ h => h.weak
end
section
open Go.RowKit Go.Maps
attribute [-simp] Tryz.isAgg36 Tryz.typeInfo36 Tryz.isAgg38 Tryz.typeInfo38 Tryz.isAgg46 Tryz.typeInfo46
set_option maxHeartbeats 8000000 in
set_option maxRecDepth 100000 in
theorem rCommit_any (w : World) {S : Nat → Prop} {x : tCommit.El} {cs : List Value} (h : tCommit.rep w S x cs) (hl : (tCommit.enc x).length ≤ 1099511627776) :
    Calls Tryz.prog 16 #[.agg cs.toArray] w fun e w' => ∃ v', e = .returned v' ∧ Fresh w w' v' (tCommit.enc x) := by
  obtain ⟨x0, x1, _⟩ := x
  obtain ⟨c0, _, rfl, r0, c1, _, rfl, r1, rfl⟩ := h
  obtain ⟨y0, rfl⟩ : ∃ y, c0 = [y] := by obtain ⟨v, _, e, _⟩ := r0; exact ⟨v, e⟩
  have l1 : c1.length = 37 := Sh.rep_size _ _ _ r1
  obtain ⟨y1, hy1⟩ : ∃ y, y = c1 := ⟨_, rfl⟩
  subst hy1
  obtain ⟨A0, cap0, rfl, hlen0, _⟩ := list_at r0
  have R0 := Lib.hid r0; clear r0
  have R1 := Lib.hid r1; clear r1
  obtain ⟨C, hC⟩ : ∃ C, C = [Value.slice A0 (List.length (α := (tHeader).El) x0) cap0] ++ (y1 ++ ([])) := ⟨_, rfl⟩
  rw [← hC]
  have hf : ∀ w', Blk w' w.heap.size 54 C.toArray → w'.cell? ⟨w.heap.size, 0, none⟩ = some (.slice A0 (List.length (α := (tHeader).El) x0) cap0) ∧ w'.rangeAt w.heap.size 1 y1 := fun w' hb => by
    have := hb.lies [[Value.slice A0 (List.length (α := (tHeader).El) x0) cap0], y1] [] (by rw [hC]; simp)
    simp only [Lies, List.length_cons, List.length_nil] at this
    obtain ⟨s0, s1, _⟩ := this
    exact ⟨Lies.one s0, s1⟩
  have HF := Lib.hid hf
  clear hf hC
  have L1 := Lib.hid l1; clear l1
  have hl' : (joinB [(Sh.list tHeader).enc x0, tQC.enc x1]).length ≤ 1099511627776 := hl
  have HLL := Lib.hid hl'
  clear hl hl'
  have HE0 := Lib.hid (show ((Sh.list tHeader).enc x0).length ≤ 1099511627776 from (by have h1 := HLL.out; rw [joinB_length] at h1; have h2 := joinP_mem (l := [(Sh.list tHeader).enc x0, tQC.enc x1]) (x := (Sh.list tHeader).enc x0) (by simp); omega))
  have hcn0 : (List.length (α := (tHeader).El) x0) ≤ 137438953472 := by
    have h1 := HE0.out
    have h2 := joinP_count (List.map (tHeader).enc x0)
    have h3 : ((Sh.list tHeader).enc x0).length = 8 + (joinP (List.map (tHeader).enc x0)).length := joinB_length _
    rw [List.length_map] at h2
    omega
  have HEJ0 := Lib.hid (show (joinB (List.map (tHeader).enc x0)).length ≤ 140737488355328 from by
    have h1 := HE0.out
    have h3 : ((Sh.list tHeader).enc x0).length = 8 + (joinP (List.map (tHeader).enc x0)).length := joinB_length _
    rw [joinB_length]
    omega)
  go_enter Tryz.func16, Tryz.ntmps16
  go_wp2_with fail
  have hbe := (Below.refl w.heap.size w).alloc (Nat.le_refl _) (.cells C.toArray 54)
  have hal0 : Below (w.heap.size + 1) (w.alloc (.cells C.toArray 54)) ((w.alloc (.cells C.toArray 54)).alloc (.cells #[] 22)) := (Below.refl _ _).alloc (by simp) _
  have hMb : w.heap.size < w.heap.size + 1 := by omega
  go_loopw [3, 4] (fun o i wr => ∃ k : Nat, k ≤ (List.length (α := (tHeader).El) x0) ∧ i = .int .i64 k ∧ Bss wr (fun b => (w.heap.size + 1) ≤ b) (fun b => (w.heap.size + 1) ≤ b) o ((List.take k x0).map (tHeader).enc) ∧ Below w.heap.size w wr ∧ (w.heap.size + 1) ≤ wr.heap.size ∧ Blk wr w.heap.size 54 C.toArray) (fun _ i _ => (List.length (α := (tHeader).El) x0) - (intOf i).toNat)
  case atStart => exact ⟨0, Nat.zero_le _, rfl, Bss.empty1 w _, hbe.alloc (by simp) _, by simp, ((Blk.new w _ _).alloc _)⟩
  case round =>
    obtain ⟨k, hk, rfl, hB, hbl, hMz, hbox⟩ := hrel
    by_cases hlt : k < (List.length (α := (tHeader).El) x0)
    · obtain ⟨R, hR⟩ : ∃ R, R = (List.take k x0).map (tHeader).enc := ⟨_, rfl⟩
      rw [← hR] at hB
      have hRl : R.length = k := by rw [hR, List.length_map, List.length_take]; omega
      have hnext : (List.take (k + 1) x0).map (tHeader).enc = R ++ [(tHeader).enc (x0[k]'hlt)] := by rw [List.take_succ_eq_append_getElem hlt, List.map_append, ← hR]; rfl
      obtain ⟨Aa, ca, rfl⟩ := hB.form
      obtain ⟨_, _, e, _, hat⟩ := list_at (Sh.rep_below R0.out hbl)
      injection e with e1 e2 e3
      subst e1 e3
      obtain ⟨b, off, c, rfl, hca, hr, hcl, hblt, _⟩ := hat k hlt
      obtain ⟨x, hx⟩ : ∃ x, x = x0[k]'hlt := ⟨_, rfl⟩
      rw [← hx] at hr hnext
      have hsm2 : ((tHeader).enc x).length ≤ 1099511627776 := by
        have h1 := joinP_mem (List.mem_map.2 ⟨x0[k]'hlt, List.getElem_mem hlt, rfl⟩ : (tHeader).enc (x0[k]'hlt) ∈ List.map (tHeader).enc x0)
        have h2 := HE0.out
        have h3 : ((Sh.list tHeader).enc x0).length = 8 + (joinP (List.map (tHeader).enc x0)).length := joinB_length _
        rw [hx]; omega
      have hinfo : (Tryz.prog.info? 38).map (·.size) = some c.length := by rw [hcl]; kernel_rfl
      have HCA := Lib.hid (show wr.rangeAt b (off + k * 101) c from hca)
      have HI := Lib.hid hinfo
      clear hinfo
      have HREP := Lib.hid hr
      have HSM := Lib.hid hsm2
      clear hr hsm2
      have hown : ∀ k, (Value.slice Aa R.length ca).ownBlock = some k → k < wr.heap.size := fun k hk => by obtain ⟨vs, ho, _⟩ := hB; exact own_lt ho hk
      have hbc := (HF.out wr hbox).1
      have HB := Lib.hid hB
      have HN := Lib.hid hnext
      have HRL := Lib.hid hRl
      have HOWN := Lib.hid hown
      have HBOX := Lib.hid hbox
      clear hB hca hcl hat hx hR hnext hRl hown hbox
      go_wp2_with (refine wpList_load_mid rfl 38 _ rfl b (off + k * 101) rfl c _ HCA.out Tryz.underlying38 rfl HI.out ?_)
      refine (rHeader_any _ HREP.out HSM.out).mono ?_
      rintro e w1 ⟨v1, rfl, f1⟩
      have hb1 := hbl.trans (f1.2.mono hbl.size)
      obtain ⟨y, hy⟩ : ∃ y, y = (tHeader).enc x := ⟨_, rfl⟩
      have f1 : Fresh wr w1 v1 y := hy ▸ f1
      rw [← hy] at HN
      obtain ⟨A1, c1, rfl⟩ := f1.1.form
      obtain ⟨vs, ho, hS, hr⟩ := HB.out.below f1.2
      have hsz1 := f1.2.size
      have hal : Below w1.heap.size w1 (w1.alloc (.cells #[.slice A1 y.length c1] 22)) := (Below.refl _ w1).alloc (Nat.le_refl _) _
      have HAL := Lib.hid hal
      have HO := Lib.hid (show Own (w1.alloc (.cells #[.slice A1 y.length c1] 22)) _ _ _ _ _ from own_keep ho fun k hk => hal.block k (own_lt ho hk))
      have HS := Lib.hid hS
      have HR := Lib.hid (fun i x u h1 h2 => (hr i x u h1 h2).below hal)
      have HU := Lib.hid ((f1.1.1.below hal).sub (T := fun b => (w.heap.size + 1) ≤ b ∧ (Value.slice Aa R.length ca).ownBlock ≠ some b) fun b hb _ => ⟨Nat.le_trans hMz hb.1, fun e => by have := HOWN.out b e; omega⟩)
      have HS2 := Lib.hid (Cs.of_new w1 22 (size := 1) 1 (cs := [.slice A1 y.length c1]) rfl (by simp only [maxLen]; decide))
      have H63 := Lib.hid (show R.length + 1 ≤ maxLen ∧ (R.length + 1) * 24 ≤ 140737488355328 from by have := HRL.out; refine ⟨by simp only [maxLen]; omega, by omega⟩)
      have HF2 := Lib.hid f1.2
      clear ho hS hr hal f1 hy
      go_wp2_with (at_builtin; refine wpList_app _ rfl _ _ _ rfl Tryz.underlying121 info_row rfl (by decide) HO.out rfl HS2.out rfl (by simp [Value.oneCell']) H63.out.1 H63.out.2 ?_; intro v3 w3 ho3 hg3 hnil3 hat3; clear hnil3; have HO3 := Lib.hid ho3; clear ho3; have HG3 := Lib.hid hg3; clear hg3; have HAT3 := Lib.hid hat3; clear hat3)
      have hzz := HAL.out.size
      have hz3 := HG3.out.size
      have hpush := Bss.push HO.out HS.out HR.out HU.out HO3.out HG3.out HAT3.out (by have := hb1.size; omega)
      rw [← HN.out] at hpush
      have hbA : Below w.heap.size w (w1.alloc (.cells #[.slice A1 y.length c1] 22)) := hb1.trans (HAL.out.mono hb1.size)
      have hbw3 := HF2.out.trans (HAL.out.mono hsz1)
      refine ⟨⟨k + 1, by omega, by push_cast; rfl, hpush, hbA.trans (HG3.out.below hbA.size fun b h => by have h1 := HS.out b h; have h2 := HBOX.out.lt; omega), by omega, (HBOX.out.below hbw3 HBOX.out.lt).chg HG3.out fun h => by have h1 := HS.out _ h; have h2 := hMb; omega⟩, ?_⟩
      simp only [intOf]
      omega
    · have hk' : k = (List.length (α := (tHeader).El) x0) := by omega
      rw [hk', List.take_length] at hB
      have hsm : ∀ x ∈ List.map (tHeader).enc x0, x.length ≤ 140737488355328 := fun x hx => by
        have h1 := joinP_mem hx
        have h2 := HE0.out
        have h3 : ((Sh.list tHeader).enc x0).length = 8 + (joinP (List.map (tHeader).enc x0)).length := joinB_length _
        omega
      have hEJ0 := HEJ0.out
      obtain ⟨R0m, hR0m⟩ : ∃ R, R = List.map (tHeader).enc x0 := ⟨_, rfl⟩
      rw [← hR0m] at hB hsm hEJ0
      have HRm0 := Lib.hid hR0m
      have HEK0 := Lib.hid hEJ0
      clear hR0m hEJ0
      have V0 := Lib.hid (((hB.read hsm).lt_ (T := fun _ => True) fun _ _ => trivial).subs (T := fun b => b < wr.heap.size) fun b hb _ => hb.2)
      obtain ⟨Ao0, co0, rfl⟩ := hB.form
      have hbc0 := (HF.out wr hbox).1
      clear hB hsm
      obtain ⟨w_0, hw_0⟩ : ∃ w', w' = wr := ⟨_, rfl⟩
      subst hw_0
      have HBX0 := Lib.hid hbox; have hmb0 := hbox.lt; clear hbox
      go_wp2_with fail
      clear hlt hk hk'
      have hsz := HBX0.out.lt
      have hb0 : Blk w_0.drew w.heap.size 54 C.toArray := HBX0.out.drew
      have hbw : Below w.heap.size w w_0.drew := (hbl).drew
      refine wp_region_hoist [0, 2, 3] [1, 4] [5, 6, 7] (fun w' => Blk w' w.heap.size 54 C.toArray)
        (by kernel_rfl) (by kernel_rfl) (by kernel_rfl) (by kernel_rfl) (by kernel_rfl) (by kernel_rfl) hb0 ?_
      (refine HoistK.yes (by rfl) (by kernel_rfl) ⟨?_, fun w' hSw => ?_, ?_⟩; rotate_left; (· go_simp; try with_reducible rfl); simp only [Act.put, setIfInBounds_toArray, getElem_toArray, getElem_cons_zero, set_cons_succ, set_cons_zero])
      (refine HoistK.yes (by rfl) (by kernel_rfl) ⟨?_, fun w' hSw => ?_, ?_⟩; rotate_left; (· go_simp; try with_reducible rfl); simp only [Act.put, setIfInBounds_toArray, getElem_toArray, getElem_cons_succ, getElem_cons_zero, set_cons_succ, set_cons_zero])
      (refine HoistK.load (by rfl) (by kernel_rfl) 46 _ rfl w.heap.size 1 rfl (y1) _ (fun w' hw => (HF.out w' hw).2) Tryz.underlying46 rfl (by rw [L1.out]; kernel_rfl) ?_; simp only [Act.put, setIfInBounds_toArray, getElem_toArray, getElem_cons_succ, getElem_cons_zero, set_cons_succ, set_cons_zero])
      refine HoistK.nil_ ?_
      simp only [opsAt, filterMap_cons, filterMap_nil, getElem?_toArray, getElem?_cons_succ, getElem?_cons_zero]
      have g0 : Got w_0.drew w_0.drew [] [] := Got.start (Below.refl _ _)
      refine Effects.cons_ fun _ hQ1 => ?_
      go_wp2_with fail
      refine (rJoin_any _ (V0.out.drew_.below g0.1) HEK0.out (fun b hb => ltle hb g0.1.size)).mono ?_
      rintro e u1 ⟨v1, rfl, f1⟩
      rw [HRm0.out] at f1
      have f1 : Fresh _ _ _ ((Sh.list tHeader).enc x0) := f1
      have g1 := g0.step f1
      have hb1 := hb0.below f1.2 hb0.lt
      clear f1
      go_wp2_with fail
      refine hQ1 _ _ hb1 (Effects.cons_ fun _ hQ2 => ?_)
      clear hQ1 hb0 g0
      go_wp2_with fail
      refine (rQC_any _ (Sh.rep_below R1.out (hbw.trans (g1.1.mono hbw.size))) (by have h1 := HLL.out; rw [joinB_length] at h1; have h2 := joinP_mem (l := [(Sh.list tHeader).enc x0, tQC.enc x1]) (x := tQC.enc x1) (by simp); omega)).mono ?_
      rintro e u2 ⟨v2, rfl, f2⟩
      have g2 := g1.step f2
      have hb2 := hb1.below f2.2 hb1.lt
      clear f2
      go_wp2_with fail
      refine hQ2 _ _ hb2 (Effects.nil_ fun _ hQ3 => ?_)
      clear hQ2 hb1 g1
      have hcs : ∀ v ∈ [v1, v2], v.cells = #[v] := fun v hv => by
        obtain ⟨i, hi, rfl⟩ := List.getElem_of_mem hv
        obtain ⟨y, _, hr⟩ := g2.2.get i hi
        obtain ⟨A, c, e⟩ := hr.form
        have e' : [v1, v2][i] = .slice A y.length c := e
        rw [e']; rfl
      refine wpList_rows rfl 2 _ rfl [v1, v2] rfl (by decide) (by decide) hcs (by simp [Act.eval]) ?_
      have hr : Bsr (u2.alloc (.cells [v1, v2].toArray 22)) (fun b => b < u2.heap.size + 1) (.slice (some ⟨u2.heap.size, 0, none⟩) 2 2) [(Sh.list tHeader).enc x0, tQC.enc x1] := g2.row (by simp [maxLen]) 22
      have hj := rJoin_any _ hr (by have := HLL.out; omega) (fun b hb => by simpa using hb)
      have hbb : Below w.heap.size w (u2.alloc (.cells [v1, v2].toArray 22)) := (hbw.trans (g2.1.mono hbw.size)).alloc (hbw.trans (g2.1.mono hbw.size)).size _
      have HJ := Lib.hid hj
      have HBB := Lib.hid hbb
      clear hj hbb hr g2 hcs
      go_wp2_with fail
      refine HJ.out.mono ?_
      rintro e uz ⟨vz, rfl, fz⟩
      go_wp2_with fail
      go_ret
      exact ⟨vz, rfl, fz.1.sub fun b hb _ => ⟨Nat.le_trans HBB.out.size hb.1, hb.2⟩, HBB.out.trans (fz.2.mono HBB.out.size)⟩
end
section
open Go.RowKit Go.Maps
attribute [-simp] Tryz.isAgg36 Tryz.typeInfo36 Tryz.isAgg38 Tryz.typeInfo38 Tryz.isAgg46 Tryz.typeInfo46 Tryz.isAgg54 Tryz.typeInfo54
def zrCommit : List Value := (([.slice none 0 0] : List Value) ++ (zrQC ++ ([] : List Value)))
set_option maxRecDepth 100000 in
theorem zrCommit_one : ∀ v ∈ zrCommit, v.oneCell' = true := by decide
theorem zrCommit_len : zrCommit.length = 38 := by kernel_rfl
theorem zrCommit_size : (Tryz.prog.info? 54).map (·.size) = some zrCommit.length := by kernel_rfl
theorem zrCommit_sizes : (Tryz.prog.info? 54).map (fun i => (i.zero.map (fun z => z.cells.size), i.size)) = some (some 38, 38) := by kernel_rfl
theorem zrCommit_info : (Tryz.prog.info? 54).map (fun i => (i.zero, i.size, i.bytes)) = some (some (.agg zrCommit.toArray), 38, 128) := by kernel_rfl
theorem zrCommit_sized {C : List Value} (h : C.length = 38) : (Tryz.prog.info? 54).map (·.size) = some C.length := by rw [h]; kernel_rfl
set_option maxHeartbeats 8000000 in
set_option maxRecDepth 100000 in
theorem rReadCommit_any (w : World) {S : Nat → Prop} {v : Value} {bs : List UInt8} (h : Bs w S v bs) (hlen : bs.length ≤ 1099511627776) :
    Calls Tryz.prog 15 #[v] w (RefOutZ tCommit zrCommit w bs) := by
  have hal := (Below.refl w.heap.size w).alloc (Nat.le_refl _) (.cells zrCommit.toArray 54)
  have HS := Lib.hid (rsplit_any _ (h.below hal) hlen)
  have HR := Lib.hid (Blk.new w 54 zrCommit.toArray)
  have HAL := Lib.hid hal
  have HLEN := Lib.hid hlen
  obtain ⟨A, cap, rfl⟩ := h.form
  clear h hal hlen
  go_enter Tryz.func15, Tryz.ntmps15
  go_wp2_with fail
  refine HS.out.mono ?_
  rintro e w1 ⟨hb1, hsp⟩
  have HR1 := Lib.hid (HR.out.below hb1 HR.out.lt)
  have HB1 := Lib.hid (HAL.out.trans (hb1.mono HAL.out.size))
  have hz01 : w.heap.size + 1 ≤ w1.heap.size := by have := hb1.size; simpa using this
  clear HR HAL HS hb1
  rcases hsp with ⟨hno, rfl⟩ | ⟨v1, l, hsp, rfl, hbss⟩
  · have HNO := Lib.hid (show Sh.dec tCommit bs = none from by
      show (match splitB bs with | none => none | some l => Fs.decs _ l) = none
      rw [hno])
    have HRR := Lib.hid HR1.out
    have HB0 := Lib.hid HB1.out
    clear hno HR1 HB1
    go_wp2_with (refine wpList_store_blk (cs0 := zrCommit) (cs := zrCommit) rfl 54 _ _ rfl HRR.out rfl rfl rfl zrCommit_size zrCommit_one ?_; intro w9 hb9 hc9; have HB9 := Lib.hid hb9; have HC9 := Lib.hid hc9; clear hb9 hc9)
    have hld := run_loadVar_mid (P := Tryz.prog) w9 w.heap.size 0 54 zrCommit _ HB9.out.range Tryz.underlying54 rfl zrCommit_size
    refine bodyPost_ret (v := .tuple #[.agg (zrCommit).toArray, .bool false]) (by simp [results, Tryz.results15, asAddr, hld]) rfl ?_
    exact ⟨HB0.out.trans (HC9.out.below HB0.out.size fun b h => Nat.le_of_eq h.symm), _, true, rfl, ⟨zrCommit_len, zrCommit_one, .inr ⟨HNO.out, rfl⟩⟩, fun _ => rfl⟩
  by_cases hln : l.length = 2
  rotate_left
  · have HNO := Lib.hid (show Sh.dec tCommit bs = none from by
      show (match splitB bs with | none => none | some l => Fs.decs _ l) = none
      rw [hsp]
      cases hd : Fs.decs (.cons (.list tHeader) (.cons tQC .nil)) l with
      | none => exact hd
      | some x => exact absurd (Fs.decs_len _ l x hd) hln)
    have HRR := Lib.hid HR1.out
    have HB0 := Lib.hid HB1.out
    obtain ⟨A1, c1, rfl⟩ := hbss.form
    have hlI : ¬ (l.length : Int) = 2 := by omega
    clear hsp HR1 HB1 hbss
    go_wp2_with (refine wpList_store_blk (cs0 := zrCommit) (cs := zrCommit) rfl 54 _ _ rfl HRR.out rfl rfl rfl zrCommit_size zrCommit_one ?_; intro w9 hb9 hc9; have HB9 := Lib.hid hb9; have HC9 := Lib.hid hc9; clear hb9 hc9)
    have hld := run_loadVar_mid (P := Tryz.prog) w9 w.heap.size 0 54 zrCommit _ HB9.out.range Tryz.underlying54 rfl zrCommit_size
    refine bodyPost_ret (v := .tuple #[.agg (zrCommit).toArray, .bool false]) (by simp [results, Tryz.results15, asAddr, hld]) rfl ?_
    exact ⟨HB0.out.trans (HC9.out.below HB0.out.size fun b h => Nat.le_of_eq h.symm), _, true, rfl, ⟨zrCommit_len, zrCommit_one, .inr ⟨HNO.out, rfl⟩⟩, fun _ => rfl⟩
  have HSP := Lib.hid hsp
  have hrl : ∀ y ∈ l, y.length ≤ 1099511627776 := fun y hy => Nat.le_trans (joinP_mem_le hsp y hy) HLEN.out
  obtain ⟨A1, c1, rfl⟩ := hbss.form
  have hall := Bsr.all (hbss.read fun y hy => by have := hrl y hy; omega) (by omega)
  obtain ⟨r0, r1, rfl⟩ : ∃ r0 r1, l = [r0, r1] := by
    match l, hln with
    | [r0, r1], _ => exact ⟨r0, r1, rfl⟩
  have HRL := Lib.hid hrl
  obtain ⟨ba, oa, rfl, _, hba, hall⟩ := hall
  obtain ⟨A_0, c_0, hc_0, hr_0⟩ := hall 0 r0 rfl
  have HC_0 := Lib.hid hc_0
  have HR_0 := Lib.hid (hr_0.sub (T := fun b => b < w1.heap.size) fun _ _ h => h)
  obtain ⟨A_1, c_1, hc_1, hr_1⟩ := hall 1 r1 rfl
  have HC_1 := Lib.hid hc_1
  have HR_1 := Lib.hid (hr_1.sub (T := fun b => b < w1.heap.size) fun _ _ h => h)
  clear hall hbss hsp hrl hln hc_0 hr_0 hc_1 hr_1
  go_wp2_with (refine wpList_store_blk (cs0 := zrCommit) (cs := zrCommit) rfl 54 _ _ rfl (Blk.new w1 _ _) rfl rfl rfl zrCommit_size zrCommit_one ?_; intro w2 hb2 hc2; have HX2 := Lib.hid (show Blk w2 w1.heap.size 54 (([] : List Value) ++ (([.slice none 0 0] : List Value) ++ (zrQC ++ ([] : List Value)))).toArray from hb2); have HP2 := Lib.hid (show Chg (fun b => b = w1.heap.size) w1 w2 from ((Chg.refl _ w1).alloc _).trans hc2 fun b h => .inl h); have hz2 : w1.heap.size + 1 ≤ w2.heap.size := (by have := hb2.lt; omega); have hcl0 : w2.cell? ⟨ba, oa, none⟩ = some (.slice A_0 r0.length c_0) := (World.cell?_of_block (a := ⟨ba, oa, none⟩) (HP2.out.block ba hba (fun e => by have e : ba = w1.heap.size := e; omega))).trans HC_0.out; clear hb2 hc2)
  refine (rsplit_one _ (HR_0.out.chg HP2.out fun b hb h => by have h : b = w1.heap.size := h; omega) (HRL.out _ (by simp))).mono ?_
  rintro e ws0 ⟨hbs0, As0, cs0, l0, g0, rfl, hbss0, hll0, hrl0, hsp0⟩
  have HXS0 := Lib.hid (HX2.out.below hbs0 HX2.out.lt)
  have HPS0 := Lib.hid (HP2.out.trans (Chg.of_below hbs0 fun b => b = w1.heap.size) fun b h => .inl h)
  have hzs0 := Nat.le_trans hz2 hbs0.size
  have hzt0 := hbs0.size
  have HROW0 := Lib.hid ((hbss0.read fun y hy => by have := hrl0 y hy; omega).subs (T := fun b => b ≠ w1.heap.size) fun b hb _ => by have hb : w2.heap.size ≤ b := hb.elim id id; omega)
  have HSPL0 := Lib.hid hsp0
  have HRLL0 := Lib.hid hrl0
  have HBS0 := Lib.hid hbs0
  have HPL0 := Lib.hid (show (([] : List Value)).length = 0 from by simp)
  clear hbs0 hbss0 hrl0 hsp0 hcl0
  go_simp
  repeat (first
    | go_values | go_skip | go_guarded | go_step | go_upon)
  have HK0 := Lib.hid (show g0 = (false || g0) from (Bool.false_or _).symm)
  go_loopw [7, 10] (fun a i wr => ∃ (k : Nat) (c : Bool) (o : Value), k ≤ l0.length ∧ i = .int .i64 k ∧ a = .bool (!c) ∧ Hid (RefI 38 101 tHeader ws0 w1.heap.size 54 ([] : List Value) (zrQC ++ ([] : List Value)) l0 g0 o k c wr)) (fun _ i _ => l0.length - (intOf i).toNat)
  case atStart => exact ⟨0, g0, _, Nat.zero_le _, rfl, rfl, Lib.hid (RefI.start HXS0.out)⟩
  case round =>
    obtain ⟨k, kc0, o0, hk, rfl, rfl, HI⟩ := hrel
    by_cases hlt : k < l0.length
    · obtain ⟨css, hown, hob, hlo, hbx, hch⟩ := HI.out
      obtain ⟨bm, om, hAm, hTm, hbm, hallm⟩ := Bsr.all HROW0.out (by omega)
      subst hAm
      obtain ⟨Ay, cy, hcy, hyb⟩ := hallm k l0[k] (List.getElem?_eq_getElem hlt)
      have hcyw : wr.cell? ⟨bm, om + k, none⟩ = some (.slice Ay l0[k].length cy) := (World.cell?_of_block (a := ⟨bm, om + k, none⟩) (hch.block bm hbm (fun e => hTm e))).trans hcy
      have htk : l0.take (k + 1) = l0.take k ++ [l0[k]] := List.take_succ_eq_append_getElem hlt
      have hyl := HRLL0.out l0[k] (List.getElem_mem hlt)
      have hyb2 := hyb.chg hch fun b hb h => hb h
      obtain ⟨y, hy⟩ : ∃ y, y = l0[k] := ⟨_, rfl⟩
      rw [← hy] at hcyw htk hyl hyb2
      have HR := Lib.hid (rReadHeader_any wr hyb2 hyl)
      obtain ⟨Ao, co, rfl⟩ := hown.form
      have HOWN := Lib.hid hown
      have HOB := Lib.hid hob
      have HLO := Lib.hid hlo
      have HCH := Lib.hid hch
      have HTK := Lib.hid htk
      have HBX := Lib.hid hbx
      have H63 := Lib.hid (show k + 1 ≤ maxLen ∧ (k + 1) * 136 ≤ 140737488355328 from ⟨by simp only [maxLen]; omega, by omega⟩)
      have hzr := hch.size
      clear hown hob hlo hch htk hbx hyl hy hyb hyb2 hcy hallm hTm hbm HI
      go_wp2_with fail
      refine HR.out.mono ?_
      rintro e wa ⟨hba, q, g, rfl, hs, _⟩
      have hl : q.length = 101 := hs.1
      have HL := Lib.hid hl
      have H1 := Lib.hid hs.2.1
      have HIq := Lib.hid (zrHeader_sized hl)
      have HIq2 := Lib.hid (show (Tryz.prog.info? 38).map (fun i => (i.zero.map (fun z => z.cells.size), i.size)) = some (some q.length, q.length) from by rw [hl]; exact zrHeader_sizes)
      have HZ := Lib.hid (show (zrHeader).length = q.length from by rw [hl]; exact zrHeader_len)
      have HXa := Lib.hid (HBX.out.below hba HBX.out.lt)
      have HBA := Lib.hid hba
      have HSQ := Lib.hid hs
      have hza := hba.size
      clear hba hs hl hcyw HR
      go_simp
      repeat (first
        | (go_big_may; refine wpList_store_blk (cs0 := zrHeader) (cs := q) rfl 38 _ _ rfl (Blk.new wa _ _) rfl rfl HZ.out HIq.out H1.out ?_; intro wb hbb hcb; have HBB := Lib.hid hbb; have HCB := Lib.hid (show Chg (fun _ => False) wa wb from ((Chg.refl _ wa).alloc _).trans hcb fun b h => .inr (Nat.le_of_eq h.symm)); have HXb := Lib.hid (HXa.out.chg HCB.out id); have hco : wb.cell? ⟨w1.heap.size, 0, none⟩ = some (.slice Ao k co) := blk_mid HXb.out HPL0.out; have HO2 := Lib.hid (show ∀ ob, Own (wb.alloc ob) 38 101 (.slice Ao k co) k css.flatten from fun ob => own_keep HOWN.out fun b hb => (Below.heap_alloc wb ob b (ltle (ltle (own_lt HOWN.out hb) HBA.out.size) HCB.out.size)).trans ((HCB.out.block b (ltle (own_lt HOWN.out hb) HBA.out.size) id).trans (HBA.out.block b (own_lt HOWN.out hb)))); have HS2 := Lib.hid (Cs.of_new wb 38 (size := 101) 1 (cs := q) (by rw [HL.out]) (by simp only [maxLen]; decide)); clear hbb hcb)
        | (go_big_may; refine wpList_load_blk' rfl 38 _ rfl HBB.out rfl Tryz.underlying38 rfl HIq.out ?_)
        | (go_big_may; refine wpList_row1 rfl 52 38 _ rfl Tryz.underlying52 (.agg q.toArray) rfl q rfl HIq2.out (by rw [HL.out]; decide) (by rw [HL.out]; decide) ?_)
        | (go_big_may; at_builtin; refine wpList_app _ rfl _ _ _ rfl Tryz.underlying52 zrHeader_info rfl (by decide) (HO2.out _) rfl HS2.out rfl H1.out H63.out.1 H63.out.2 ?_; intro v6 w6 ho6 hc6 hnil6 hat6; clear hnil6; obtain ⟨A6, c6, rfl⟩ := ho6.form; have HX6 := Lib.hid (Blk.assoc_ ((HXb.out.alloc _).chg hc6 fun h => by have := HOB.out _ h; omega)); have HO6 := Lib.hid ho6; have HC6 := Lib.hid hc6; have HAT6 := Lib.hid hat6; clear ho6 hc6 hat6)
        | (go_big_may; refine wpList_store_part (pre := ([] : List Value)) (old := ([.slice Ao k co] : List Value)) (vals := ([.slice A6 (k + 1) c6] : List Value)) (post := (zrQC ++ ([] : List Value))) rfl 52 _ _ rfl HX6.out HPL0.out rfl (v := .slice A6 (k + 1) c6) rfl rfl (by simp only [List.length_cons, List.length_nil]) (by kernel_rfl) (fun u hu => by obtain rfl := List.mem_singleton.1 hu; rfl) ?_; intro w7 hx7 hc7; have HX7 := Lib.hid hx7; have HC7 := Lib.hid hc7; clear hx7 hc7)
        | ((with_reducible (show wpList _ _ _ (⟨_, .move _, _, _, _, some _⟩ :: _) _ _)); refine wpList_and kc0 g _ _ _ rfl rfl rfl (by cases kc0 <;> rfl) rfl (fun _ => rfl) (fun _ => rfl) ?_; intro vA cN hcN; have HCN := Lib.hid hcN; clear hcN)
        | go_values | go_skip | go_guarded | go_step | go_upon)
      go_wp2_with fail
      exact ⟨⟨k + 1, cN, _, by omega, by push_cast; rfl, rfl, Lib.hid (RefI.step (by omega) HOWN.out HOB.out HLO.out HCH.out HBA.out HSQ.out HCB.out HTK.out HO6.out HC6.out HAT6.out HX7.out HC7.out HCN.out)⟩, by simp only [intOf]; omega⟩
    · have hk' : k = l0.length := by omega
      subst hk'
      have HS0 := Lib.hid (HI.out.out rfl HSPL0.out HK0.out)
      obtain ⟨css, hown, _, _, hbx, hch⟩ := HI.out
      have HX3 := Lib.hid hbx
      have HC2 := Lib.hid (show Chg (fun b => b = w1.heap.size) w2 wr from (Chg.of_below HBS0.out fun b => b = w1.heap.size).trans hch fun b h => .inl h)
      clear hown hbx hch HI hk HXS0 HPS0 HROW0 HRLL0
      generalize wr = w3 at *
      have HPL0 := HPL0
      have HP3 := Lib.hid (HP2.out.trans HC2.out fun b h => .inl h)
      have hz3 := Nat.le_trans hz2 HC2.out.size
      have hcl1 : w3.cell? ⟨ba, oa + 1, none⟩ = some (.slice A_1 r1.length c_1) := (World.cell?_of_block (a := ⟨ba, oa + 1, none⟩) (HP3.out.block ba hba (fun e => by have e : ba = w1.heap.size := e; omega))).trans HC_1.out
      go_wp2_with fail
      refine (rReadQC_any _ (HR_1.out.chg HP3.out fun b hb h => by have h : b = w1.heap.size := h; omega) (HRL.out _ (by simp))).mono ?_
      rintro e wa1 ⟨hba1, q1, g1, rfl, hs1, _⟩
      have hl1 : q1.length = 37 := hs1.1
      have HL1 := Lib.hid hl1
      have H11 := Lib.hid hs1.2.1
      have HI1 := Lib.hid (zrQC_sized hl1)
      have HZ1 := Lib.hid (show (zrQC).length = q1.length from by rw [hl1]; exact zrQC_len)
      have HXa1 := Lib.hid (HX3.out.below hba1 HX3.out.lt)
      have HBA1 := Lib.hid hba1
      have HS1 := Lib.hid hs1
      have hza1 := hba1.size
      clear hba1 hs1 hl1 hcl1
      have HPL1 := Lib.hid (show ((([] : List Value) ++ ([o0] : List Value))).length = 1 from by simp)
      go_simp
      repeat (first
        | ((with_reducible (show wpList _ _ _ (⟨_, .move _, _, _, _, some _⟩ :: _) _ _)); refine wpList_and kc0 g1 _ _ _ rfl rfl rfl (by cases kc0 <;> rfl) rfl (fun _ => rfl) (fun _ => rfl) ?_; intro vA1 k1 hk1; have HK1 := Lib.hid hk1; clear hk1; cases k1 <;> refine Hid.out ?_)
        | (go_big_may; refine wpList_store_blk (cs0 := zrQC) (cs := q1) rfl 46 _ _ rfl (Blk.new wa1 _ _) rfl rfl HZ1.out HI1.out H11.out ?_; intro wb1 hbb hcb; have HBB1 := Lib.hid hbb; have HCB1 := Lib.hid (show Chg (fun _ => False) wa1 wb1 from ((Chg.refl _ wa1).alloc _).trans hcb fun b h => .inr (Nat.le_of_eq h.symm)); have HXb1 := Lib.hid (HXa1.out.chg HCB1.out id); clear hbb hcb)
        | (go_big_may; refine wpList_load_blk' rfl 46 _ rfl HBB1.out rfl Tryz.underlying46 rfl HI1.out ?_)
        | (go_big_may; refine wpList_store_part (pre := (([] : List Value) ++ ([o0] : List Value))) (old := zrQC) (vals := q1) (post := ([] : List Value)) rfl 46 _ _ rfl HXb1.out HPL1.out rfl (v := .agg q1.toArray) rfl rfl HZ1.out HI1.out H11.out ?_; intro w4 hbn hcn; have HX4 := Lib.hid hbn; have HC3 := Lib.hid (show Chg (fun b => b = w1.heap.size) w3 w4 from (((Chg.of_below HBA1.out fun b => b = w1.heap.size).trans HCB1.out fun b h => h.elim).trans hcn fun b h => .inl h)); have HCD1 := Lib.hid (show Chg (fun b => b = w1.heap.size) wa1 w4 from (HCB1.out.mono (M' := fun b => b = w1.heap.size) fun _ h => h.elim).trans hcn fun b h => .inl h); have HP4 := Lib.hid (HP3.out.trans HC3.out fun b h => .inl h); have hz4 := Nat.le_trans hz3 HC3.out.size; clear hbn hcn)
        | go_values | go_skip | go_guarded | go_step | go_upon)
      · refine Lib.hid ?_
        have HRR := Lib.hid ((HR1.out.chg HP4.out (fun h => by have h : w.heap.size = w1.heap.size := h; omega)))
        have HB0 := Lib.hid (HB1.out.trans (HP4.out.below HB1.out.size fun b h => by have h : b = w1.heap.size := h; omega))
        have hkb1 : ∀ b, w3.heap.size ≤ b → b < wa1.heap.size → b < w4.heap.size ∧ w4.heap[b]? = wa1.heap[b]? := fun b hb hlt => ⟨ltle hlt HCD1.out.size, HCD1.out.block b hlt fun e => by have e : b = w1.heap.size := e; omega⟩
        have ho0 : SOut (.list tHeader) w3 (Nw w2.heap.size w3) r0 ([o0] : List Value) false kc0 := (HS0.out.nw (k' := w2.heap.size) (fun b _ hlt => ⟨hlt, rfl⟩) hzt0)
        have ho1 : SOut tQC w4 (Nw w3.heap.size w4) r1 q1 kc0 false := (HS1.out.nw (k' := w3.heap.size) (w' := w4) hkb1 (Nat.le_refl _)).orr kc0 false HK1.out
        have hout : Fs.Out (.cons (.list tHeader) (.cons tQC .nil)) w4 (Nw (w.heap.size + 1) w4) [r0, r1] (([o0] : List Value) ++ (q1 ++ [])) false false := Fs.Out.stepR ho0 (Fs.Out.stepR ho1 (Fs.Out.nil_ w4 _ _) (Chg.refl (fun k => k = w1.heap.size) _) (by omega) (by omega)) HC3.out (by omega) (by omega)
        have htup : SOut tCommit w4 (Nw (w.heap.size + 1) w4) bs (([o0] : List Value) ++ (q1 ++ [])) false false := Fs.Out.tup (n := 2) hout (.inl ⟨rfl, HSP.out⟩) fun l x h => Fs.decs_len _ l x h
        have hpre : ((([] : List Value) ++ ([o0] : List Value)) ++ q1) = (([o0] : List Value) ++ (q1 ++ [])) := by simp
        obtain ⟨C, hC⟩ : ∃ C, C = (([o0] : List Value) ++ (q1 ++ [])) := ⟨_, rfl⟩
        rw [← hC] at htup hpre
        have hX := HX4.out
        rw [hpre, List.append_nil] at hX
        have HX := Lib.hid hX
        have hCl : C.length = 38 := htup.1
        have HI := Lib.hid (zrCommit_sized hCl)
        have HL := Lib.hid (show zrCommit.length = C.length from by rw [hCl]; exact zrCommit_len)
        have H1 := Lib.hid htup.2.1
        have HT := Lib.hid htup
        clear hout htup hpre hX hCl hC ho0 ho1 hkb1
        go_wp2_with (first
          | (refine wpList_load_blk' rfl 54 _ rfl HX.out rfl Tryz.underlying54 rfl HI.out ?_)
          | (refine wpList_store_blk (cs0 := zrCommit) (cs := C) rfl 54 _ _ rfl HRR.out rfl rfl HL.out HI.out H1.out ?_; intro w9 hb9 hc9; have HB9 := Lib.hid hb9; have HC9 := Lib.hid hc9; clear hb9 hc9))
        have hld := run_loadVar_mid (P := Tryz.prog) w9 w.heap.size 0 54 C _ HB9.out.range Tryz.underlying54 rfl HI.out
        refine bodyPost_ret (v := .tuple #[.agg (C).toArray, .bool true]) (by simp [results, Tryz.results15, asAddr, hld]) rfl ?_
        exact ⟨HB0.out.trans (HC9.out.below HB0.out.size fun b h => Nat.le_of_eq h.symm), C, false, rfl, HT.out.nw (w' := w9) (k' := w.heap.size) (fun b hb hlt => ⟨ltle hlt HC9.out.size, HC9.out.block b hlt fun e => by have e : b = w.heap.size := e; omega⟩) (by omega), fun h => by cases h⟩
      · refine Lib.hid ?_
        have HRR := Lib.hid ((HR1.out.chg HP4.out (fun h => by have h : w.heap.size = w1.heap.size := h; omega)))
        have HB0 := Lib.hid (HB1.out.trans (HP4.out.below HB1.out.size fun b h => by have h : b = w1.heap.size := h; omega))
        have hkb1 : ∀ b, w3.heap.size ≤ b → b < wa1.heap.size → b < w4.heap.size ∧ w4.heap[b]? = wa1.heap[b]? := fun b hb hlt => ⟨ltle hlt HCD1.out.size, HCD1.out.block b hlt fun e => by have e : b = w1.heap.size := e; omega⟩
        have ho0 : SOut (.list tHeader) w3 (Nw w2.heap.size w3) r0 ([o0] : List Value) false kc0 := (HS0.out.nw (k' := w2.heap.size) (fun b _ hlt => ⟨hlt, rfl⟩) hzt0)
        have ho1 : SOut tQC w4 (Nw w3.heap.size w4) r1 q1 kc0 true := (HS1.out.nw (k' := w3.heap.size) (w' := w4) hkb1 (Nat.le_refl _)).orr kc0 true HK1.out
        have hout : Fs.Out (.cons (.list tHeader) (.cons tQC .nil)) w4 (Nw (w.heap.size + 1) w4) [r0, r1] (([o0] : List Value) ++ (q1 ++ [])) false true := Fs.Out.stepR ho0 (Fs.Out.stepR ho1 (Fs.Out.nil_ w4 _ _) (Chg.refl (fun k => k = w1.heap.size) _) (by omega) (by omega)) HC3.out (by omega) (by omega)
        have htup : SOut tCommit w4 (Nw (w.heap.size + 1) w4) bs (([o0] : List Value) ++ (q1 ++ [])) false true := Fs.Out.tup (n := 2) hout (.inl ⟨rfl, HSP.out⟩) fun l x h => Fs.decs_len _ l x h
        have HNO := Lib.hid (show Sh.dec tCommit bs = none from by
          rcases htup.2.2 with ⟨_, _, h, _⟩ | ⟨h, _⟩
          · cases h
          · exact h)
        clear hout htup ho0 ho1 hkb1
        go_wp2_with (refine wpList_store_blk (cs0 := zrCommit) (cs := zrCommit) rfl 54 _ _ rfl HRR.out rfl rfl rfl zrCommit_size zrCommit_one ?_; intro w9 hb9 hc9; have HB9 := Lib.hid hb9; have HC9 := Lib.hid hc9; clear hb9 hc9)
        have hld := run_loadVar_mid (P := Tryz.prog) w9 w.heap.size 0 54 zrCommit _ HB9.out.range Tryz.underlying54 rfl zrCommit_size
        refine bodyPost_ret (v := .tuple #[.agg (zrCommit).toArray, .bool false]) (by simp [results, Tryz.results15, asAddr, hld]) rfl ?_
        exact ⟨HB0.out.trans (HC9.out.below HB0.out.size fun b h => Nat.le_of_eq h.symm), _, true, rfl, ⟨zrCommit_len, zrCommit_one, .inr ⟨HNO.out, rfl⟩⟩, fun _ => rfl⟩
end
section
open Go.RowKit Go.Maps
attribute [-simp] Tryz.isAgg36 Tryz.typeInfo36 Tryz.isAgg54 Tryz.typeInfo54
set_option maxHeartbeats 8000000 in
set_option maxRecDepth 100000 in
theorem read_Commit (w : World) {S : Nat → Prop} {v : Value} {bs : List UInt8} {sent : Value} (h : Bs w S v bs) (hlen : bs.length ≤ 1099511627776) (hp : Pk w sent) :
    Calls Tryz.prog 5 #[.int .i64 2, v] w (ReadAns w bs) := by
  have HF := Lib.hid (ReadCommit_any w h hp)
  have HB := Lib.hid h
  have HLEN := Lib.hid hlen
  obtain ⟨A, cap, rfl⟩ := h.form
  clear h hlen hp
  go_enter Tryz.func5, Tryz.ntmps5
  go_wp2_with fail
  refine HF.out.mono ?_
  rintro e w1 ⟨hb1, C, n, rfl, hCl, hC1, hn⟩
  have hCl : C.length = 38 := hCl
  have HZL := Lib.hid (show zrCommit.length = C.length from by rw [hCl]; exact zrCommit_len)
  have HCI := Lib.hid (zrCommit_sized hCl)
  have HC1 := Lib.hid hC1
  have HN := Lib.hid hn
  have HB1 := Lib.hid hb1
  have HBB := Lib.hid (HB.out.below hb1)
  have hz1 := hb1.size
  clear hCl hC1 hn hb1 HF
  go_wp2_with (refine wpList_store_blk (cs0 := zrCommit) (cs := C) rfl 54 _ _ rfl (Blk.new w1 _ _) rfl rfl HZL.out HCI.out HC1.out ?_; intro w2 hyy hcc; have HX2 := Lib.hid hyy; have HCw2 := Lib.hid (show Chg (fun _ => False) w1 w2 from ((Chg.refl _ w1).alloc _).trans hcc fun b h => .inr (Nat.le_of_eq h.symm)); clear hyy hcc)
  have hz2 := HCw2.out.size
  have HB2 := Lib.hid (HB1.out.trans (HCw2.out.below HB1.out.size fun b h => h.elim))
  refine (rReadCommit_any w2 (HBB.out.chg HCw2.out fun _ _ h => h) HLEN.out).mono ?_
  rintro e w3 ⟨hb3, D, g, rfl, hs, hzz⟩
  have hDl : D.length = 38 := hs.1
  have HZD := Lib.hid (show zrCommit.length = D.length from by rw [hDl]; exact zrCommit_len)
  have HDI := Lib.hid (zrCommit_sized hDl)
  have HD1 := Lib.hid hs.2.1
  have HS := Lib.hid hs
  have HZZ := Lib.hid hzz
  have HX3 := Lib.hid (HX2.out.below hb3 HX2.out.lt)
  have HB23 := Lib.hid hb3
  have HB3 := Lib.hid (HB2.out.trans (hb3.mono HB2.out.size))
  have hz3 := hb3.size
  clear hDl hs hzz hb3 HBB HX2
  by_cases hn0 : n = 0
  · subst hn0
    obtain ⟨hbl, x, hdx, hrx⟩ : bs.length ≤ 262144 ∧ ∃ x, Sh.dec tCommit bs = some x ∧ Sh.rep w1 (fun b => w.heap.size ≤ b) tCommit x C := by
      rcases HN.out with ⟨_, h⟩ | ⟨hb, ⟨x, h1, _, h3⟩ | ⟨_, h⟩⟩
      · cases h
      · exact ⟨hb, x, h1, h3⟩
      · cases h
    obtain ⟨rfl, hry⟩ : g = false ∧ Sh.rep w3 (Nw w2.heap.size w3) tCommit x D := by
      rcases HS.out.2.2 with ⟨y, h1, h2, h3⟩ | ⟨h1, _⟩
      · rw [hdx] at h1; injection h1 with h1; subst h1; exact ⟨h2, h3⟩
      · rw [hdx] at h1; cases h1
    have hex : Sh.enc tCommit x = bs := (Sh.enc_dec _ _ _ hdx).1
    have HEX := Lib.hid hex
    have HLX := Lib.hid (show (Sh.enc tCommit x).length ≤ 1099511627776 by rw [hex]; exact HLEN.out)
    have HBL := Lib.hid hbl
    have HRX := Lib.hid (Sh.rep_below (Sh.rep_chg hrx HCw2.out fun _ _ h => h) HB23.out)
    have HRY := Lib.hid hry
    clear hdx hrx hry hex hbl HN HS HZZ
    go_simp
    go_wp2_with (refine wpList_store_blk (cs0 := zrCommit) (cs := D) rfl 54 _ _ rfl (Blk.new w3 _ _) rfl rfl HZD.out HDI.out HD1.out ?_; intro w4 hyy hcc; have HY4 := Lib.hid hyy; have HCw4 := Lib.hid (show Chg (fun _ => False) w3 w4 from ((Chg.refl _ w3).alloc _).trans hcc fun b h => .inr (Nat.le_of_eq h.symm)); clear hyy hcc)
    have hx := (HX3.out.chg HCw4.out id).drew
    have hy := HY4.out.drew
    have hb := (HB3.out.trans (HCw4.out.below HB3.out.size fun b h => h.elim)).drew
    have hb4 : Below w4.heap.size w4 w4.drew := (Below.refl _ w4).drew
    have hrx := Sh.rep_below (Sh.rep_chg HRX.out HCw4.out fun _ _ h => h) hb4
    have hry := Sh.rep_below (Sh.rep_chg HRY.out HCw4.out fun _ _ h => h) hb4
    have hz4 := HCw4.out.size
    refine wp_region_segsV [([0, 2, 3, 5], [1]), ([], [4]), ([6, 7, 8, 9], [])] (by kernel_rfl) (by kernel_rfl) (by kernel_rfl) (by kernel_rfl)
      (SegV.mk (fun w' => Blk w' w1.heap.size 54 C.toArray ∧ Blk w' w3.heap.size 54 D.toArray) (fun _ _ => trivial) ⟨hx, hy⟩ ?_)
    (refine HoistK.load (by rfl) (by kernel_rfl) 54 _ rfl w1.heap.size 0 rfl C _ (fun w' hw => hw.1.range) Tryz.underlying54 rfl HCI.out ?_; simp only [Act.put, setIfInBounds_toArray, getElem_toArray, getElem_cons_zero, set_cons_succ, set_cons_zero])
    (refine HoistK.yes (by rfl) (by kernel_rfl) ⟨?_, fun w' hSw => ?_, ?_⟩; rotate_left; (· go_simp; try with_reducible rfl); simp only [Act.put, setIfInBounds_toArray, getElem_toArray, getElem_cons_succ, getElem_cons_zero, set_cons_succ, set_cons_zero])
    (refine HoistK.load (by rfl) (by kernel_rfl) 54 _ rfl w3.heap.size 0 rfl D _ (fun w' hw => hw.2.range) Tryz.underlying54 rfl HDI.out ?_; simp only [Act.put, setIfInBounds_toArray, getElem_toArray, getElem_cons_succ, getElem_cons_zero, set_cons_succ, set_cons_zero])
    (refine HoistK.yes (by rfl) (by kernel_rfl) ⟨?_, fun w' hSw => ?_, ?_⟩; rotate_left; (· go_simp; try with_reducible rfl); simp only [Act.put, setIfInBounds_toArray, getElem_toArray, getElem_cons_succ, getElem_cons_zero, set_cons_succ, set_cons_zero])
    refine HoistK.nil_ ?_
    simp only [opsAt, filterMap_cons, filterMap_nil, getElem?_toArray, getElem?_cons_succ, getElem?_cons_zero]
    refine EffS.cons_ fun _ hQ => ?_
    go_wp2_with fail
    refine (rCommit_any _ hrx HLX.out).mono ?_
    rintro e w5 ⟨v5, rfl, f5⟩
    rw [HEX.out] at f5
    obtain ⟨A5, c5, rfl⟩ := f5.1.form
    have hx5 := hx.below f5.2 hx.lt
    have hy5 := hy.below f5.2 hy.lt
    have hb5 := hb.trans (f5.2.mono hb.size)
    have hry5 := Sh.rep_below hry f5.2
    have hw5 := f5.1.sub (T := fun b => w.heap.size ≤ b) fun b hb' _ => Nat.le_trans hb.size hb'.1
    clear f5
    go_wp2_with fail
    refine hQ _ _ ⟨hx5, hy5⟩ (EffS.nil_ (SegV.mk (fun w' => (Blk w' w1.heap.size 54 C.toArray ∧ Blk w' w3.heap.size 54 D.toArray) ∧ Bs w' (fun b => w.heap.size ≤ b) (.slice A5 bs.length c5) bs) (fun _ h => h.1) ⟨⟨hx5, hy5⟩, hw5⟩ ?_))
    refine HoistK.nil_ ?_
    simp only [opsAt, filterMap_cons, filterMap_nil, getElem?_toArray, getElem?_cons_succ, getElem?_cons_zero]
    refine EffS.cons_ fun _ hQ => ?_
    go_wp2_with fail
    refine (rCommit_any _ hry5 HLX.out).mono ?_
    rintro e w6 ⟨v6, rfl, f6⟩
    rw [HEX.out] at f6
    obtain ⟨A6, c6, rfl⟩ := f6.1.form
    have hx6 := hx5.below f6.2 hx5.lt
    have hy6 := hy5.below f6.2 hy5.lt
    have hb6 := hb5.trans (f6.2.mono hb5.size)
    have hw56 := hw5.below f6.2
    have hw6 := f6.1.sub (T := fun b => w.heap.size ≤ b) fun b hb' _ => Nat.le_trans hb5.size hb'.1
    clear f6
    go_wp2_with fail
    refine hQ _ _ ⟨⟨hx6, hy6⟩, hw56⟩ (EffS.nil_ (SegV.mk (fun w' => ((Blk w' w1.heap.size 54 C.toArray ∧ Blk w' w3.heap.size 54 D.toArray) ∧ Bs w' (fun b => w.heap.size ≤ b) (.slice A5 bs.length c5) bs) ∧ Bs w' (fun b => w.heap.size ≤ b) (.slice A6 bs.length c6) bs) (fun _ h => h.1) ⟨⟨⟨hx6, hy6⟩, hw56⟩, hw6⟩ ?_))
    iterate 4 (refine HoistK.yes (by rfl) (by kernel_rfl) ⟨?_, fun w' hSw => ?_, ?_⟩; rotate_left; (· go_simp; try with_reducible rfl); simp only [Act.put, setIfInBounds_toArray, getElem_toArray, getElem_cons_succ, getElem_cons_zero, set_cons_succ, set_cons_zero])
    refine HoistK.nil_ ?_
    simp only [opsAt, filterMap_nil, getElem?_toArray]
    refine EffS.nil_ fun _ hQ => ?_
    go_wp2_with fail
    ((try simp only [Exit.inBlock, Exit.then]); refine bodyPost_ret (results_tmp4 rfl _ _ _) rfl ?_)
    exact ⟨hb6, _, _, 0, true, rfl, .inr ⟨HBL.out, .inl ⟨rfl, rfl, hw56, hw6⟩⟩⟩
  · obtain ⟨x, hrx, hlx⟩ : ∃ x, Sh.rep w3 (Nw w2.heap.size w3) tCommit x D ∧ (Sh.enc tCommit x).length ≤ 1099511627776 := by
      rcases HS.out.2.2 with ⟨x, h1, _, h3⟩ | ⟨_, h2⟩
      · exact ⟨x, h3, by rw [(Sh.enc_dec _ _ _ h1).1]; exact HLEN.out⟩
      · rw [HZZ.out h2]
        exact ⟨Sh.zel tCommit, Sh.zel_rep w3 _ tCommit, by rw [Sh.zel_len]; decide⟩
    have hans : (262144 < bs.length ∧ n = 4) ∨ (bs.length ≤ 262144 ∧ n = 5 ∧ g = true) := by
      rcases HN.out with h | ⟨hb, ⟨_, _, h, _⟩ | ⟨h1, h2⟩⟩
      · exact .inl h
      · exact absurd h hn0
      · refine .inr ⟨hb, h2, ?_⟩
        rcases HS.out.2.2 with ⟨y, h3, _, _⟩ | ⟨_, h3⟩
        · rw [h1] at h3; cases h3
        · exact h3
    have HANS := Lib.hid hans
    have HRX := Lib.hid hrx
    have HLX := Lib.hid hlx
    clear hans hrx hlx HN HS HZZ
    go_simp
    go_wp2_with (first
      | (refine wpList_store_blk (cs0 := zrCommit) (cs := D) rfl 54 _ _ rfl (Blk.new w3 _ _) rfl rfl HZD.out HDI.out HD1.out ?_; intro w4 hyy hcc; have HY4 := Lib.hid hyy; have HCw4 := Lib.hid (show Chg (fun _ => False) w3 w4 from ((Chg.refl _ w3).alloc _).trans hcc fun b h => .inr (Nat.le_of_eq h.symm)); clear hyy hcc)
      | (refine wpList_load_blk' rfl 54 _ rfl HY4.out rfl Tryz.underlying54 rfl HDI.out ?_))
    have hb4 := HB3.out.trans (HCw4.out.below HB3.out.size fun b h => h.elim)
    refine (rCommit_any _ (Sh.rep_chg HRX.out HCw4.out fun _ _ h => h) HLX.out).mono ?_
    rintro e w5 ⟨v5, rfl, f5⟩
    have hb5 := hb4.trans (f5.2.mono hb4.size)
    clear f5
    go_wp2_with fail
    ((try simp only [Exit.inBlock, Exit.then]); refine bodyPost_ret (results_tmp4 rfl _ _ _) rfl ?_)
    refine ⟨hb5, _, _, n, !g, rfl, ?_⟩
    rcases HANS.out with h | ⟨h1, h2, h3⟩
    · exact .inl h
    · exact .inr ⟨h1, .inr ⟨h2, by rw [h3]; rfl⟩⟩
end
section
open Go.RowKit Go.Maps
attribute [-simp] Tryz.isAgg36 Tryz.typeInfo36 Tryz.isAgg54 Tryz.typeInfo54
theorem size_oneCommit_any : (Tryz.prog.info? 54).map (·.size) = some 38 := by kernel_rfl
set_option maxHeartbeats 4000000 in
set_option maxRecDepth 100000 in
theorem oneCommit_any (w : World) {X : Nat → Prop} {E g : Nat} {sent : Value} {x : List UInt8} {rows : List (List UInt8)} {bad : Bool} (h : Pt w X E g sent (x :: rows) bad) (hxl : x.length ≤ 262144) :
    Calls Tryz.prog 87 #[.pointer (some ⟨g, 0, none⟩), .func (Fn.func 57) #[] #[]] w (Took tCommit w X E g sent x rows bad) := by
  have hgx := h.2.2.1
  have hgw := h.lt
  have hEw := h.2.2.2.2.1
  have hp0 := h.more ((Below.refl w.heap.size w).alloc (Nat.le_refl _) (.cells (([.slice none 0 0] ++ ([.int .i64 0, .int .i64 0, .int .i64 0] ++ List.replicate 32 (.int .u8 0) ++ [.slice none 0 0, .slice none 0 0]) : List Value)).toArray 54)) (fun b => b = w.heap.size) (fun b hb => ⟨Nat.le_of_eq hb.symm, by rw [hb]; simp⟩)
  have H := Lib.hid (next_any _ hp0)
  have HN := Lib.hid (Blk.new w 54 (([.slice none 0 0] ++ ([.int .i64 0, .int .i64 0, .int .i64 0] ++ List.replicate 32 (.int .u8 0) ++ [.slice none 0 0, .slice none 0 0]) : List Value)).toArray)
  have HGX := Lib.hid hgx
  have HX1 := Lib.hid (show ∀ b, X b → b < w.heap.size from h.2.2.2.1)
  clear h hp0 hgx
  go_enter Tryz.func87, Tryz.ntmps87
  go_wp2_with fail
  refine H.out.mono ?_
  rintro e w1 ⟨v1, rfl, hb1, hc1, hp1⟩
  have HK := Lib.hid (HN.out.chg hc1 (fun h => by omega))
  have hz1 : w.heap.size + 1 ≤ w1.heap.size := by simpa using hc1.size
  have HR := Lib.hid (readCommit_any w1 hb1 hxl hp1.1)
  have HC1 := Lib.hid (show Chg (fun k => k = g) w w1 from ((Chg.refl (fun k => k = g) w).alloc _).trans hc1 fun b h => .inl h)
  have HP1 := Lib.hid hp1
  obtain ⟨A1, c1, rfl⟩ := hb1.form
  clear hb1 hp1 hc1 H HN hxl
  go_wp2_with fail
  refine HR.out.mono ?_
  rintro e w2 hro
  obtain ⟨C, err, bd, rfl, h1, hl, hb2, he, ho⟩ := hro.agg (fun _ => rfl)
  have hl : C.length = 38 := hl
  have hz2 := Nat.le_trans hz1 hb2.size
  have HI := Lib.hid (show (Tryz.prog.info? 54).map (·.size) = some C.length from by rw [hl]; exact size_oneCommit_any)
  have H1 := Lib.hid h1
  have HL := Lib.hid hl
  have HP2 := Lib.hid (HP1.out.below hb2)
  have HK2 := Lib.hid (HK.out.below hb2 HK.out.lt)
  have HC2 := Lib.hid (HC1.out.trans (Chg.of_below hb2 fun k => k = g) fun b h => .inl h)
  have HO := Lib.hid (ho.or_ bad)
  clear hro h1 hl hb2 ho HR HP1 HK HC1
  rcases he with ⟨rfl, rfl⟩ | ⟨rfl, hch⟩
  · go_wp2_with (first
      | (refine wpList_store_blk (cs0 := ([.slice none 0 0] ++ ([.int .i64 0, .int .i64 0, .int .i64 0] ++ List.replicate 32 (.int .u8 0) ++ [.slice none 0 0, .slice none 0 0]) : List Value)) (cs := C) rfl 54 _ _ rfl (Blk.new w2 _ _) rfl rfl (by rw [HL.out]; rfl) HI.out H1.out ?_; intro w3 hb3 hc3; have HB3 := Lib.hid hb3
         have HC3 := Lib.hid (show Chg (fun _ => False) w2 w3 from ((Chg.refl _ w2).alloc _).trans hc3 fun b h => .inr (Nat.le_of_eq h.symm)); clear hb3 hc3
         have HK3 := Lib.hid (HK2.out.chg HC3.out id))
      | (refine wpList_load_blk' rfl 54 _ rfl HB3.out rfl Tryz.underlying54 rfl HI.out ?_)
      | (refine wpList_store_blk (cs0 := ([.slice none 0 0] ++ ([.int .i64 0, .int .i64 0, .int .i64 0] ++ List.replicate 32 (.int .u8 0) ++ [.slice none 0 0, .slice none 0 0]) : List Value)) (cs := C) rfl 54 _ _ rfl HK3.out rfl rfl (by rw [HL.out]; rfl) HI.out H1.out ?_; intro w9 hb9 hc9; have HB9 := Lib.hid hb9; have HC9 := Lib.hid hc9; clear hb9 hc9))
    have hld := run_loadVar_mid (P := Tryz.prog) w9 w.heap.size 0 54 C _ HB9.out.range Tryz.underlying54 rfl HI.out
    refine bodyPost_ret (v := .agg C.toArray) (by simp [results, Tryz.results87, asAddr, hld, Act.put]) rfl ?_
    have hp9 := (HP2.out.chg HC3.out fun b h => h.elim).chg HC9.out fun b h => ⟨.inr h, fun e => by omega⟩
    have ho9 := HO.out.nw (w' := w9) (k' := w.heap.size) (fun b hb hlt => ⟨ltle hlt (Nat.le_trans HC3.out.size HC9.out.size), (HC9.out.block b (ltle hlt HC3.out.size) (fun e => by omega)).trans (HC3.out.block b hlt id)⟩) (by omega)
    rw [Bool.or_false] at ho9
    exact ⟨C, bad, rfl, (HC2.out.trans (HC3.out.mono (M' := fun k => k = g) fun _ h => h.elim) fun b h => .inl h).trans HC9.out fun b h => .inr (Nat.le_of_eq h.symm), hp9.less (fun b h => .inl h) HGX.out, ho9⟩
  · obtain ⟨gw, rfl⟩ := hch.form
    have HCH := Lib.hid hch; clear hch
    go_wp2_with (first
      | (refine wpList_store_blk (cs0 := ([.slice none 0 0] ++ ([.int .i64 0, .int .i64 0, .int .i64 0] ++ List.replicate 32 (.int .u8 0) ++ [.slice none 0 0, .slice none 0 0]) : List Value)) (cs := C) rfl 54 _ _ rfl (Blk.new w2 _ _) rfl rfl (by rw [HL.out]; rfl) HI.out H1.out ?_; intro w3 hb3 hc3; have HB3 := Lib.hid hb3
         have HC3 := Lib.hid (show Chg (fun _ => False) w2 w3 from ((Chg.refl _ w2).alloc _).trans hc3 fun b h => .inr (Nat.le_of_eq h.symm)); clear hb3 hc3
         have HK3 := Lib.hid (HK2.out.chg HC3.out id)))
    have hp3 := (HP2.out.chg HC3.out fun b h => h.elim)
    have hlx := hp3.2.2.2.1
    have hz3 := Nat.le_trans hz2 HC3.out.size
    have hal := (Below.refl w3.heap.size w3).alloc (Nat.le_refl _) (.cells #[.string ⟨#[119, 105, 116, 104, 105, 110]⟩, .iface 154 (.pointer (some ⟨gw, 0, none⟩))] 158)
    have hch3 := (HCH.out.to (w' := w3) (S' := fun b => ¬ (X b ∨ b = w.heap.size) ∧ E ≤ b) (fun b hb hlt => ⟨ltle hlt HC3.out.size, HC3.out.block b hlt id⟩) fun b hb hlt => ⟨fun h => h.elim (fun h => by have := HP2.out.2.2.2.1 b (.inl h); have := HX1.out b h; omega) fun h => by omega, by omega⟩)
    have HBAD := Lib.hid (bad_any _ (hp3.below hal) (hch3.freshMore _ ⟨fun h => absurd (hlx _ h) (Nat.lt_irrefl _), by omega⟩))
    clear hp3 hlx hal hch3
    refine HBAD.out.mono ?_
    rintro e w4 ⟨rfl, hc4, hp4⟩
    have HC4 := Lib.hid hc4
    have HP4 := Lib.hid hp4
    have hgg : ¬ w.heap.size = g := by omega
    have HK4 := Lib.hid ((HK3.out.alloc _).chg hc4 (fun h => hgg h))
    have HB4 := Lib.hid ((HB3.out.alloc _).chg hc4 (fun h => by omega))
    clear hc4 hp4 HBAD
    go_wp2_with (first
      | (refine wpList_load_blk' rfl 54 _ rfl HB4.out rfl Tryz.underlying54 rfl HI.out ?_)
      | (refine wpList_store_blk (cs0 := ([.slice none 0 0] ++ ([.int .i64 0, .int .i64 0, .int .i64 0] ++ List.replicate 32 (.int .u8 0) ++ [.slice none 0 0, .slice none 0 0]) : List Value)) (cs := C) rfl 54 _ _ rfl HK4.out rfl rfl (by rw [HL.out]; rfl) HI.out H1.out ?_; intro w9 hb9 hc9; have HB9 := Lib.hid hb9; have HC9 := Lib.hid hc9; clear hb9 hc9))
    have hld := run_loadVar_mid (P := Tryz.prog) w9 w.heap.size 0 54 C _ HB9.out.range Tryz.underlying54 rfl HI.out
    refine bodyPost_ret (v := .agg C.toArray) (by simp [results, Tryz.results87, asAddr, hld, Act.put]) rfl ?_
    have hc34 : Chg (fun k => k = g) w2 w4 := ((HC3.out.mono (M' := fun k => k = g) fun _ h => h.elim).alloc _).trans HC4.out fun b h => .inl h
    have hp9 := HP4.out.chg HC9.out fun b h => ⟨.inr h, fun e => by omega⟩
    have ho9 := HO.out.nw (w' := w9) (k' := w.heap.size) (fun b hb hlt => ⟨ltle hlt (Nat.le_trans hc34.size HC9.out.size), (HC9.out.block b (ltle hlt hc34.size) (fun e => by omega)).trans (hc34.block b hlt (fun e => by omega))⟩) (by omega)
    rw [Bool.or_true] at ho9
    exact ⟨C, true, rfl, (HC2.out.trans hc34 fun b h => .inl h).trans HC9.out fun b h => .inr (Nat.le_of_eq h.symm), hp9.less (fun b h => .inl h) HGX.out, ho9⟩
end
section
open Go.RowKit Go.Maps
attribute [-simp] Tryz.isAgg36 Tryz.typeInfo36 Tryz.isAgg61 Tryz.typeInfo61
theorem info_readFact : (Tryz.prog.info? 61).map (fun i => (i.zero.map (fun z => z.cells.size))) = some (some 73) := by kernel_rfl
theorem size_readFact : (Tryz.prog.info? 61).map (·.size) = some 73 := by kernel_rfl
theorem places_readFact : ((match Tryz.prog.underlying 61 with | some (.struct fields) => fields.toList.mapM (fun f => (Tryz.prog.info? f.type).map fun i => (f.offset, i.size)) | _ => none)) = some [(0, 38), (38, 32), (70, 1), (71, 1), (72, 1)] := by kernel_rfl
set_option maxHeartbeats 4000000 in
set_option maxRecDepth 100000 in
theorem readFact_any (w : World) {S : Nat → Prop} {v sent : Value} {bs : List UInt8} (h : Bs w S v bs) (hlen : bs.length ≤ 262144) (hg : Gl w sent) :
    Calls Tryz.prog 59 #[v] w (ReadOut (.tup (.cons tCommit (.cons .dig (.cons .byt (.cons .bool (.cons .byt .nil)))))) w sent bs) := by
  have hal := (Below.refl w.heap.size w).alloc (Nat.le_refl _) (.cells (([.slice none 0 0] ++ ([.int .i64 0, .int .i64 0, .int .i64 0] ++ List.replicate 32 (.int .u8 0) ++ [.slice none 0 0, .slice none 0 0]) ++ List.replicate 32 (.int .u8 0) ++ [.slice none 0 0, .bool false, .slice none 0 0] : List Value)).toArray 61)
  have HS := Lib.hid (psplit_any _ (h.below hal) (by omega) (hg.below hal) 5 (by omega) ⟨#[97, 32, 102, 97, 99, 116]⟩)
  have HN := Lib.hid (Blk.new w 61 (([.slice none 0 0] ++ ([.int .i64 0, .int .i64 0, .int .i64 0] ++ List.replicate 32 (.int .u8 0) ++ [.slice none 0 0, .slice none 0 0]) ++ List.replicate 32 (.int .u8 0) ++ [.slice none 0 0, .bool false, .slice none 0 0] : List Value)).toArray)
  have HAL := Lib.hid hal
  obtain ⟨A, cap, rfl⟩ := h.form
  clear h hg hal
  go_enter Tryz.func59, Tryz.ntmps59
  go_wp2_with fail
  refine HS.out.mono ?_
  rintro e w1 ⟨g, rows, bad, rfl, hgw, hb1, hp, hn, hrl, hs⟩
  obtain ⟨r0, r1, r2, r3, r4, rfl⟩ : ∃ r0 r1 r2 r3 r4, rows = [r0, r1, r2, r3, r4] := by
    match rows, hn with
    | [r0, r1, r2, r3, r4], _ => exact ⟨r0, r1, r2, r3, r4, rfl⟩
  have HK := Lib.hid (HN.out.below hb1 (by simp))
  have hgw' : w.heap.size + 1 ≤ g := by simpa using hgw
  have hz1 : w.heap.size + 1 ≤ w1.heap.size := by simpa using hb1.size
  have HB1 := Lib.hid (HAL.out.trans (hb1.mono (by simp)))
  have HSS := Lib.hid hs
  have HRL := Lib.hid (show ∀ x ∈ [r0, r1, r2, r3, r4], x.length ≤ 262144 from fun x hx => Nat.le_trans (hrl x hx) hlen)
  have hE : Pt w1 (fun b => b = g) (w.heap.size + 1) g sent [r0, r1, r2, r3, r4] bad := by simpa using hp
  clear HS HN HAL hgw hb1 hs hn hp hrl hlen
  have hp0 := hE
  clear hE
  go_wp2_with fail
  refine (oneCommit_any _ hp0 (HRL.out _ (by simp))).mono ?_
  rintro e w2 ht
  obtain ⟨c0, b0, rfl, h10, hl0, hc0, hp1, ho0⟩ := ht.agg (fun _ => rfl)
  have hl0 : c0.length = 38 := hl0
  have hgl0 := hp0.lt
  have hz2 := Nat.le_trans hz1 hc0.size
  have HO0 := Lib.hid ho0
  have HC0 := Lib.hid hc0
  have H10 := Lib.hid h10
  have HL0 := Lib.hid hl0
  clear hl0
  clear ht ho0 hc0 h10 hp0
  go_wp2_with fail
  refine (pdigest_any _ hp1).mono ?_
  rintro e w3 ht
  obtain ⟨c1, b1, rfl, h11, hl1, hc1, hp2, ho1⟩ := ht.agg (fun _ => rfl)
  have hl1 : c1.length = 32 := hl1
  have hgl1 := hp1.lt
  have hz3 := Nat.le_trans hz2 hc1.size
  have HO1 := Lib.hid ho1
  have HC1 := Lib.hid hc1
  have H11 := Lib.hid h11
  have HL1 := Lib.hid hl1
  clear hl1
  clear ht ho1 hc1 h11 hp1
  go_wp2_with fail
  refine (pbytes_any _ hp2).mono ?_
  rintro e w4 ht
  obtain ⟨y2, b2, rfl, h12, hc2, hp3, ho2⟩ := ht.one (fun _ => rfl) rfl
  have hgl2 := hp2.lt
  have hz4 := Nat.le_trans hz3 hc2.size
  have HO2 := Lib.hid ho2
  have HC2 := Lib.hid hc2
  have H12 := Lib.hid h12
  clear ht ho2 hc2 h12 hp2
  go_wp2_with fail
  refine (ptruth_any _ hp3).mono ?_
  rintro e w5 ht
  obtain ⟨y3, b3, rfl, h13, hc3, hp4, ho3⟩ := ht.one (fun _ => rfl) rfl
  have hgl3 := hp3.lt
  have hz5 := Nat.le_trans hz4 hc3.size
  have HO3 := Lib.hid ho3
  have HC3 := Lib.hid hc3
  have H13 := Lib.hid h13
  clear ht ho3 hc3 h13 hp3
  go_wp2_with fail
  refine (pbytes_any _ hp4).mono ?_
  rintro e w6 ht
  obtain ⟨y4, b4, rfl, h14, hc4, hp5, ho4⟩ := ht.one (fun _ => rfl) rfl
  have hgl4 := hp4.lt
  have hz6 := Nat.le_trans hz5 hc4.size
  have HO4 := Lib.hid ho4
  have HC4 := Lib.hid hc4
  have H14 := Lib.hid h14
  clear ht ho4 hc4 h14 hp4
  have hbu := run_struct (P := Tryz.prog) (vs := [.agg c0.toArray, .agg c1.toArray, y2, y3, y4]) (cs := [c0, c1, [y2], [y3], [y4]]) info_readFact places_readFact ⟨rfl, rfl, cells_one H12.out, cells_one H13.out, cells_one H14.out, trivial⟩ (by simp [PlaceOk, HL0.out, HL1.out]) (by simp [HL0.out, HL1.out]) #[(0, .agg c0.toArray), (1, .agg c1.toArray), (2, y2), (3, y3), (4, y4)] rfl
  have hone : ∀ v ∈ [c0, c1, [y2], [y3], [y4]].flatten, v.oneCell' = true := by
    intro v hv
    simp only [List.flatten_cons, List.flatten_nil, List.mem_append, List.mem_singleton, List.not_mem_nil, or_false] at hv
    rcases hv with hv | hv | rfl | rfl | rfl
    · exact H10.out v hv
    · exact H11.out v hv
    · exact H12.out
    · exact H13.out
    · exact H14.out
  have HOUT := Lib.hid (show Fs.Out (.cons tCommit (.cons .dig (.cons .byt (.cons .bool (.cons .byt .nil))))) w6 (Nw (w.heap.size + 1) w6) [r0, r1, r2, r3, r4] [c0, c1, [y2], [y3], [y4]].flatten bad b4 from by
    have := Fs.Out.step HO0.out (Fs.Out.step HO1.out (Fs.Out.step HO2.out (Fs.Out.step HO3.out (Fs.Out.step HO4.out (Fs.Out.nil_ w6 _ _) (Chg.refl _ _) hgl4 hz5) HC4.out hgl3 hz4) (HC3.out.trans HC4.out fun b h => .inl h) hgl2 hz3) ((HC2.out.trans HC3.out fun b h => .inl h).trans HC4.out fun b h => .inl h) hgl1 hz2) (((HC1.out.trans HC2.out fun b h => .inl h).trans HC3.out fun b h => .inl h).trans HC4.out fun b h => .inl h) hgl0 hz1
    simpa using this)
  have HCA := Lib.hid (show Chg (fun k => k = g) w1 w6 from ((((HC0.out.trans HC1.out fun b h => .inl h).trans HC2.out fun b h => .inl h).trans HC3.out fun b h => .inl h).trans HC4.out fun b h => .inl h))
  have hcl : [c0, c1, [y2], [y3], [y4]].flatten.length = 73 := by simp [HL0.out, HL1.out]
  obtain ⟨C, hC⟩ : ∃ C, C = [c0, c1, [y2], [y3], [y4]].flatten := ⟨_, rfl⟩
  rw [← hC] at hbu hone hcl HOUT
  have HBU := Lib.hid hbu
  have HONE := Lib.hid hone
  have HCL := Lib.hid hcl
  have HI := Lib.hid (show (Tryz.prog.info? 61).map (·.size) = some C.length from by rw [hcl]; exact size_readFact)
  have HK2 := Lib.hid (HK.out.chg HCA.out (show ¬ w.heap.size = g from by omega))
  clear hbu hone hcl hC HK HO0 HC0 H10 HO1 HC1 H11 HO2 HC2 H12 HO3 HC3 H13 HO4 HC4 H14 HL0 HL1
  have HP := Lib.hid hp5
  have hgX := hp5.lt
  clear hp5
  have hbu := HBU.out w6
  have HX := Lib.hid (HP.out.parts)
  go_wp2_with (first | (refine wpList_build_ rfl 61 _ rfl #[(0, .agg c0.toArray), (1, .agg c1.toArray), (2, y2), (3, y3), (4, y4)] (by simp [Act.eval]) _ hbu ?_) | (refine wpList_store_blk (cs0 := ([.slice none 0 0] ++ ([.int .i64 0, .int .i64 0, .int .i64 0] ++ List.replicate 32 (.int .u8 0) ++ [.slice none 0 0, .slice none 0 0]) ++ List.replicate 32 (.int .u8 0) ++ [.slice none 0 0, .bool false, .slice none 0 0] : List Value)) (cs := C) rfl 61 _ _ rfl (Blk.new w6 _ _) rfl rfl (by rw [HCL.out]; rfl) HI.out HONE.out ?_; intro wx hbx hcx; have HBX := Lib.hid hbx; have HCX := Lib.hid hcx; clear hbx hcx))
  obtain ⟨vy, ey, hblk, herr⟩ := HX.out
  have HCX' := Lib.hid (show Chg (fun _ => False) w6 wx from ((Chg.refl _ w6).alloc _).trans HCX.out fun b h => .inr (Nat.le_of_eq h.symm))
  have HGX := Lib.hid (hblk.chg HCX'.out id)
  have HKX := Lib.hid (HK2.out.chg HCX'.out id)
  have HE := Lib.hid herr
  clear hbu hblk herr HX HBU
  refine wp_region_hoist [0, 1, 2, 3, 4] [5] [6] (fun w' => Blk w' w6.heap.size 61 C.toArray ∧ Blk w' g 168 #[vy, ey])
    (by kernel_rfl) (by kernel_rfl) (by kernel_rfl) (by kernel_rfl) (by kernel_rfl) (by kernel_rfl) ⟨HBX.out.drew, HGX.out.drew⟩ ?_
  (refine HoistK.load (by rfl) (by kernel_rfl) 61 _ rfl w6.heap.size 0 rfl C _ (fun w' hw => hw.1.range) Tryz.underlying61 rfl HI.out ?_; simp only [Act.put, setIfInBounds_toArray, getElem_toArray, getElem_cons_zero, set_cons_succ, set_cons_zero])
  iterate 3 (refine HoistK.yes (by rfl) (by kernel_rfl) ⟨?_, fun w' hSw => ?_, ?_⟩; rotate_left; (· go_simp; try with_reducible rfl); simp only [Act.put, setIfInBounds_toArray, getElem_toArray, getElem_cons_succ, getElem_cons_zero, set_cons_succ, set_cons_zero])
  (refine HoistK.yes (by rfl) (by kernel_rfl) ⟨?_, fun w' hSw => ?_, ?_⟩; rotate_left; (· have hcc := hSw.2.cell; go_simp; try with_reducible rfl); simp only [Act.put, setIfInBounds_toArray, getElem_toArray, getElem_cons_succ, getElem_cons_zero, set_cons_succ, set_cons_zero])
  refine HoistK.nil_ ?_
  simp only [opsAt, filterMap_cons, filterMap_nil, getElem?_toArray, getElem?_cons_succ, getElem?_cons_zero]
  refine Effects.cons_ fun _ hQ1 => ?_
  go_wp2_with (refine wpList_store_blk (cs0 := ([.slice none 0 0] ++ ([.int .i64 0, .int .i64 0, .int .i64 0] ++ List.replicate 32 (.int .u8 0) ++ [.slice none 0 0, .slice none 0 0]) ++ List.replicate 32 (.int .u8 0) ++ [.slice none 0 0, .bool false, .slice none 0 0] : List Value)) (cs := C) rfl 61 _ _ rfl HKX.out.drew rfl rfl (by rw [HCL.out]; rfl) HI.out HONE.out ?_; intro wy hby hcy; have HBY := Lib.hid hby; have HCY := Lib.hid hcy; clear hby hcy)
  refine hQ1 _ _ ⟨HBX.out.drew.chg HCY.out (fun h => by omega), HGX.out.drew.chg HCY.out (fun h => by omega)⟩ (Effects.nil_ fun _ hQ2 => ?_)
  go_wp2
  have hld := run_loadVar_mid (P := Tryz.prog) wy w.heap.size 0 61 C _ HBY.out.range Tryz.underlying61 rfl HI.out
  refine bodyPost_ret (v := .tuple #[.agg C.toArray, ey]) (by simp [results, Tryz.results59, asAddr, hld]) rfl ?_
  have hcf : Chg (fun b => b = w.heap.size) w6 wy := ((HCX'.out.mono fun _ h => h.elim).drew).trans HCY.out fun b h => .inl h
  exact ReadOut.mk (n := 5) HOUT.out HSS.out rfl HE.out (HB1.out.trans (HCA.out.below HB1.out.size fun b h => by omega)) hcf
end
section
open Go.RowKit Go.Maps
attribute [-simp] Tryz.isAgg36 Tryz.typeInfo36 Tryz.isAgg61 Tryz.typeInfo61
def zFFact : List Value := ([.slice none 0 0] ++ ([.int .i64 0, .int .i64 0, .int .i64 0] ++ List.replicate 32 (.int .u8 0) ++ [.slice none 0 0, .slice none 0 0]) ++ List.replicate 32 (.int .u8 0) ++ [.slice none 0 0, .bool false, .slice none 0 0] : List Value)
set_option maxRecDepth 100000 in
theorem one_faceFact : ∀ v ∈ zFFact, v.oneCell' = true := by decide
set_option maxRecDepth 100000 in
theorem len_faceFact : zFFact.length = 73 := by decide
theorem size_faceFact : (Tryz.prog.info? 61).map (·.size) = some zFFact.length := by kernel_rfl
set_option maxHeartbeats 8000000 in
set_option maxRecDepth 100000 in
theorem faceFact_any (w : World) {S : Nat → Prop} {v sent : Value} {bs : List UInt8} (h : Bs w S v bs) (hp : Pk w sent) :
    Calls Tryz.prog 58 #[v, .func (Fn.func 59) #[] #[]] w (FaceOutN tFact zFFact w bs) := by
  obtain ⟨A, cap, rfl⟩ := h.form
  have hal1 := (Below.refl w.heap.size w).alloc (Nat.le_refl _) (.cells (zFFact).toArray 61)
  have hal2 := hal1.alloc (by simp) (.cells (zFFact).toArray 61)
  have hr0 := (Blk.new w 61 (zFFact).toArray).alloc (.cells (zFFact).toArray 61)
  have hz0 := Blk.new (w.alloc (.cells (zFFact).toArray 61)) 61 (zFFact).toArray
  rw [show (w.alloc (.cells (zFFact).toArray 61)).heap.size = w.heap.size + 1 by simp] at hz0
  by_cases hbig : 262144 < bs.length
  · obtain ⟨sb, hsb⟩ : ∃ sb, w.cell? ⟨0, 0, none⟩ = some (.iface 237 (.pointer (some sb))) := by
      obtain ⟨_, _, b, _, _, _, _, _, _, _, _, h, _⟩ := hp
      exact ⟨b, h⟩
    have hgb : ∀ {W : World}, Below w.heap.size w W → W.cell? ⟨0, 0, none⟩ = some (.iface 237 (.pointer (some sb))) := fun hb => cell_low hsb hb
    clear h
    go_enter Tryz.func58, Tryz.ntmps58
    go_wp2_with fail
    have hb := hal2.drew
    have hr : Blk _ _ _ _ := hr0.drew
    have hz : Blk _ _ _ _ := hz0.drew
    clear hal1 hal2 hz0 hsb
    refine wp_region_hoist [0, 1, 2] [3, 4, 5] [6, 7] (fun w' => Blk w' (w.heap.size + 1) 61 (zFFact).toArray ∧ w'.cell? ⟨0, 0, none⟩ = some (.iface 237 (.pointer (some sb)))) (by kernel_rfl) (by kernel_rfl) (by kernel_rfl) (by kernel_rfl) (by kernel_rfl) (by kernel_rfl) ⟨hz, hgb hb⟩ ?_
    (refine HoistK.load (by rfl) (by kernel_rfl) 61 _ rfl (w.heap.size + 1) 0 rfl zFFact _ (fun w' hw => hw.1.range) Tryz.underlying61 rfl size_faceFact ?_; simp only [Act.put, setIfInBounds_toArray, getElem_toArray, getElem_cons_zero, set_cons_succ, set_cons_zero])
    (refine HoistK.yes (by rfl) (by kernel_rfl) ⟨?_, fun w' hSw => ?_, ?_⟩; rotate_left; (· have hcc := hSw.2; go_simp; try with_reducible rfl); simp only [Act.put, setIfInBounds_toArray, getElem_toArray, getElem_cons_succ, getElem_cons_zero, set_cons_succ, set_cons_zero])
    (refine HoistK.yes (by rfl) (by kernel_rfl) ⟨?_, fun w' hSw => ?_, ?_⟩; rotate_left; (· go_simp; try with_reducible rfl); simp only [Act.put, setIfInBounds_toArray, getElem_toArray, getElem_cons_succ, getElem_cons_zero, set_cons_succ, set_cons_zero])
    refine HoistK.nil_ ?_
    simp only [opsAt, filterMap_cons, filterMap_nil, getElem?_toArray, getElem?_cons_succ, getElem?_cons_zero]
    refine Effects.world (F := fun W => Below w.heap.size w W ∧ Blk W w.heap.size 61 (zFFact).toArray ∧ Blk W (w.heap.size + 1) 61 (zFFact).toArray) (fun W hF => ?_) ⟨hb, hr, hz⟩
    clear hb hr hz hr0
    obtain ⟨hb, hr, hz⟩ := hF
    refine Effects.cons_ fun _ hQ => ?_
    have hzl := hz.lt
    go_wp2_with fail
    have hk := Blk.new W 158 #[.string ⟨#[97, 108, 108]⟩, .iface 237 (.pointer (some sb))]
    replace hb := hb.alloc hb.size (.cells #[.string ⟨#[97, 108, 108]⟩, .iface 237 (.pointer (some sb))] 158)
    replace hr := hr.alloc (.cells #[.string ⟨#[97, 108, 108]⟩, .iface 237 (.pointer (some sb))] 158)
    replace hz := hz.alloc (.cells #[.string ⟨#[97, 108, 108]⟩, .iface 237 (.pointer (some sb))] 158)
    obtain ⟨gg, hgg⟩ : ∃ gg, gg = W.heap.size := ⟨_, rfl⟩
    have hgn : gg ≠ w.heap.size := by omega
    rw [← hgg] at hk ⊢
    have HGG := Lib.hid hgg; clear hgg
    generalize W.alloc (.cells #[.string ⟨#[97, 108, 108]⟩, .iface 237 (.pointer (some sb))] 158) = W1 at *
    refine hQ _ _ ⟨hz, hgb hb⟩ (Effects.cons_ fun _ hQ => ?_)
    go_wp2_with fail
    refine hQ _ _ ⟨hz, hgb hb⟩ (Effects.cons_ fun _ hQ => ?_)
    go_wp2_with fail
    refine (told_any (r := true) _ (hp.below hb) ⟨gg, 1, _, rfl, .more hk .last, hgb hb⟩).mono ?_
    rintro e W2 ⟨rfl, hb2⟩
    replace hb := hb.trans (hb2.mono hb.size)
    replace hr := hr.below hb2 hr.lt
    replace hz := hz.below hb2 hz.lt
    replace hk := hk.below hb2 hk.lt
    go_wp2_with fail
    refine hQ _ _ ⟨hz, hgb hb⟩ (Effects.nil_ fun _ hQ => ?_)
    refine wpList_store_blk (cs0 := zFFact) (cs := zFFact) rfl 61 _ _ rfl hr rfl rfl rfl size_faceFact one_faceFact ?_
    intro W3 hr3 hc3
    go_wp2_with fail
    replace hb := hb.trans (hc3.below hb.size fun b h => Nat.le_of_eq h.symm)
    have hld := run_loadVar_mid (P := Tryz.prog) _ w.heap.size 0 61 zFFact _ hr3.range Tryz.underlying61 rfl size_faceFact
    exact bodyPost_ret (v := .tuple #[.agg (zFFact).toArray, .int .i64 4]) (by simp [results, Tryz.results58, asAddr, hld]) rfl ⟨hb, _, 4, rfl, len_faceFact, one_faceFact, .inl ⟨hbig, rfl, rfl⟩⟩
  · have hlen : bs.length ≤ 262144 := by omega
    have HR := Lib.hid (readFact_any _ (h.below hal2) hlen (hp.1.below hal2))
    have HA := Lib.hid hal2
    have HR0 := Lib.hid hr0
    have HZ0 := Lib.hid hz0
    clear h hal1 hal2 hr0 hz0
    go_enter Tryz.func58, Tryz.ntmps58
    go_wp2_with fail
    refine HR.out.mono ?_
    rintro e w2 hro
    obtain ⟨C, err, bd, rfl, h1, hl, hb2, he, ho⟩ := hro.agg (fun _ => rfl)
    have hl : C.length = 73 := hl
    have HL := Lib.hid hl
    have HI := Lib.hid (show (Tryz.prog.info? 61).map (·.size) = some C.length from by rw [hl]; rw [size_faceFact, len_faceFact])
    have H1 := Lib.hid h1
    have HK := Lib.hid (HR0.out.below hb2 HR0.out.lt)
    have HZ := Lib.hid (HZ0.out.below hb2 HZ0.out.lt)
    have hz2 : w.heap.size + 2 ≤ w2.heap.size := by have := hb2.size; simpa using this
    have HB2 := Lib.hid (HA.out.trans (hb2.mono HA.out.size))
    have HO := Lib.hid (show SOut tFact w2 (Nw (w.heap.size + 2) w2) bs C false bd from ho.nw (fun b _ hlt => ⟨hlt, rfl⟩) (by simp))
    have he := he.to (w' := w2) (S' := fun b => w.heap.size + 2 ≤ b) (fun b _ hlt => ⟨hlt, rfl⟩) fun b hb _ => by simpa using hb
    clear hro h1 hl hb2 ho HR HA HR0 HZ0
    rcases he with ⟨rfl, rfl⟩ | ⟨rfl, hch⟩
    · go_wp2_with (first
        | (refine wpList_store_blk (cs0 := zFFact) (cs := C) rfl 61 _ _ rfl (Blk.new w2 _ _) rfl rfl (by rw [HL.out]; exact len_faceFact) HI.out H1.out ?_; intro w3 hb3 hc3; have HB3 := Lib.hid hb3
           have HC3 := Lib.hid (show Chg (fun _ => False) w2 w3 from ((Chg.refl _ w2).alloc _).trans hc3 fun b h => .inr (Nat.le_of_eq h.symm)); clear hb3 hc3
           have HK3 := Lib.hid (HK.out.chg HC3.out id))
        | (refine wpList_load_blk' rfl 61 _ rfl HB3.out rfl Tryz.underlying61 rfl HI.out ?_)
        | (refine wpList_store_blk (cs0 := zFFact) (cs := C) rfl 61 _ _ rfl HK3.out rfl rfl (by rw [HL.out]; exact len_faceFact) HI.out H1.out ?_; intro w9 hb9 hc9; have HB9 := Lib.hid hb9; have HC9 := Lib.hid hc9; clear hb9 hc9))
      have hld := run_loadVar_mid (P := Tryz.prog) w9 w.heap.size 0 61 C _ HB9.out.range Tryz.underlying61 rfl HI.out
      refine bodyPost_ret (v := .tuple #[.agg C.toArray, .int .i64 0]) (by simp [results, Tryz.results58, asAddr, hld]) rfl ?_
      obtain ⟨o1, o2, o3⟩ := HO.out
      have hc29 : Chg (fun b => b = w.heap.size) w2 w9 := (HC3.out.mono (M' := fun b => b = w.heap.size) fun _ h => h.elim).trans HC9.out fun b h => .inl h
      refine ⟨HB2.out.trans (hc29.below HB2.out.size fun b h => Nat.le_of_eq h.symm), C, 0, rfl, o1, o2, .inr ⟨hlen, .inl ?_⟩⟩
      rcases o3 with ⟨x, e1, _, e3⟩ | ⟨_, e2⟩
      · exact ⟨x, e1, rfl, Sh.rep_to (fun b hb hlt => ⟨ltle hlt hc29.size, hc29.block b hlt fun e => by have := hb.1; omega⟩) (fun b hb hlt => hb.to (by omega) (hc29.block b hlt fun e => by have := hb.1; omega)) _ _ _ e3⟩
      · cases e2
    · obtain ⟨gw, rfl⟩ := hch.form
      have HCH := Lib.hid hch; clear hch
      have hno : Sh.dec tFact bs = none := by
        obtain ⟨_, _, o3⟩ := HO.out
        rcases o3 with ⟨x, _, e2, _⟩ | ⟨e1, _⟩
        · cases e2
        · exact e1
      have HNO := Lib.hid hno; clear hno
      go_wp2_with (refine wpList_store_blk (cs0 := zFFact) (cs := C) rfl 61 _ _ rfl (Blk.new w2 _ _) rfl rfl (by rw [HL.out]; exact len_faceFact) HI.out H1.out ?_; intro w3 hb3 hc3; have HC3 := Lib.hid (show Chg (fun _ => False) w2 w3 from ((Chg.refl _ w2).alloc _).trans hc3 fun b h => .inr (Nat.le_of_eq h.symm)); clear hb3 hc3)
      have hr : Blk _ _ _ _ := (HK.out.chg HC3.out id).drew
      have hz : Blk _ _ _ _ := (HZ.out.chg HC3.out id).drew
      have hb := (HB2.out.trans (HC3.out.below HB2.out.size fun b h => h.elim)).drew
      have hch3 := HCH.out.to (w' := w3.drew) (S' := fun b => w.heap.size + 2 ≤ b) (fun b hb hlt => ⟨ltle hlt HC3.out.size, HC3.out.block b hlt id⟩) fun b hb _ => hb
      have hz3 : w.heap.size + 2 ≤ w3.drew.heap.size := Nat.le_trans hz2 HC3.out.size
      refine wp_region_hoist [0, 1] [2] [3, 4] (fun w' => Blk w' (w.heap.size + 1) 61 (zFFact).toArray) (by kernel_rfl) (by kernel_rfl) (by kernel_rfl) (by kernel_rfl) (by kernel_rfl) (by kernel_rfl) hz ?_
      (refine HoistK.load (by rfl) (by kernel_rfl) 61 _ rfl (w.heap.size + 1) 0 rfl zFFact _ (fun w' hw => hw.range) Tryz.underlying61 rfl size_faceFact ?_; simp only [Act.put, setIfInBounds_toArray, getElem_toArray, getElem_cons_zero, set_cons_succ, set_cons_zero])
      (refine HoistK.yes (by rfl) (by kernel_rfl) ⟨?_, fun w' hSw => ?_, ?_⟩; rotate_left; (· go_simp; try with_reducible rfl); simp only [Act.put, setIfInBounds_toArray, getElem_toArray, getElem_cons_succ, getElem_cons_zero, set_cons_succ, set_cons_zero])
      refine HoistK.nil_ ?_
      simp only [opsAt, filterMap_cons, filterMap_nil, getElem?_toArray, getElem?_cons_succ, getElem?_cons_zero]
      refine Effects.world (F := fun W => Below w.heap.size w W ∧ Blk W w.heap.size 61 (zFFact).toArray ∧ Blk W (w.heap.size + 1) 61 (zFFact).toArray ∧ Chain W (fun b => w.heap.size + 2 ≤ b) sent (.iface 154 (.pointer (some ⟨gw, 0, none⟩)))) (fun W hF => ?_) ⟨hb, hr, hz, hch3⟩
      clear hb hr hz hch3 hz3
      obtain ⟨hb, hr, hz, hch⟩ := hF
      refine Effects.cons_ fun _ hQ => ?_
      go_wp2_with fail
      refine (told_any (r := false) _ (hp.below hb) (Wr.of_chain hch)).mono ?_
      rintro e W2 ⟨rfl, hb2⟩
      replace hb := hb.trans (hb2.mono hb.size)
      replace hr := hr.below hb2 hr.lt
      replace hz := hz.below hb2 hz.lt
      go_wp2_with fail
      refine hQ _ _ hz (Effects.nil_ fun _ hQ => ?_)
      refine wpList_store_blk (cs0 := zFFact) (cs := zFFact) rfl 61 _ _ rfl hr rfl rfl rfl size_faceFact one_faceFact ?_
      intro W3 hr3 hc3
      go_wp2_with fail
      replace hb := hb.trans (hc3.below hb.size fun b h => Nat.le_of_eq h.symm)
      have hld := run_loadVar_mid (P := Tryz.prog) _ w.heap.size 0 61 zFFact _ hr3.range Tryz.underlying61 rfl size_faceFact
      exact bodyPost_ret (v := .tuple #[.agg (zFFact).toArray, .int .i64 5]) (by simp [results, Tryz.results58, asAddr, hld]) rfl ⟨hb, _, 5, rfl, len_faceFact, one_faceFact, .inr ⟨hlen, .inr ⟨HNO.out, rfl, rfl⟩⟩⟩
set_option maxHeartbeats 4000000 in
set_option maxRecDepth 100000 in
theorem ReadFact_anyN (w : World) {S : Nat → Prop} {v sent : Value} {bs : List UInt8} (h : Bs w S v bs) (hp : Pk w sent) :
    Calls Tryz.prog 17 #[v] w (FaceOutN tFact zFFact w bs) := by
  have hal1 := (Below.refl w.heap.size w).alloc (Nat.le_refl _) (.cells (zFFact).toArray 61)
  have HF := Lib.hid (faceFact_any _ (h.below hal1) (hp.below hal1))
  have HR := Lib.hid (Blk.new w 61 (zFFact).toArray)
  have HA := Lib.hid hal1
  obtain ⟨A, cap, rfl⟩ := h.form
  clear h hp hal1
  go_enter Tryz.func17, Tryz.ntmps17
  go_wp2_with fail
  refine HF.out.mono ?_
  rintro e w1 ⟨hb, C, n, rfl, hl, h1, hn⟩
  have hl : C.length = 73 := hl
  have HL := Lib.hid hl
  have HI := Lib.hid (show (Tryz.prog.info? 61).map (·.size) = some C.length from by rw [hl]; rw [size_faceFact, len_faceFact])
  have H1 := Lib.hid h1
  have hlz : (zFFact).length = C.length := by rw [hl, len_faceFact]
  have HLZ := Lib.hid hlz
  have HK := Lib.hid (HR.out.below hb (by simp))
  have HB := Lib.hid hb
  have HN := Lib.hid hn
  have hz1 : w.heap.size + 1 ≤ w1.heap.size := by have := hb.size; simpa using this
  clear hl h1 hlz hb hn HF HR
  go_wp2_with (refine wpList_store_blk (cs0 := zFFact) (cs := C) rfl 61 _ _ rfl HK.out rfl rfl HLZ.out HI.out H1.out ?_; intro w9 hb9 hc9; have HB9 := Lib.hid hb9; have HC9 := Lib.hid hc9; clear hb9 hc9)
  have hld := run_loadVar_mid (P := Tryz.prog) w9 w.heap.size 0 61 C _ HB9.out.range Tryz.underlying61 rfl HI.out
  refine bodyPost_ret (v := .tuple #[.agg C.toArray, .int .i64 n]) (by simp [results, Tryz.results17, asAddr, hld]) rfl ?_
  have hbw := HA.out.trans (HB.out.mono HA.out.size)
  refine ⟨hbw.trans (HC9.out.below hbw.size fun b h => Nat.le_of_eq h.symm), C, n, rfl, HL.out, H1.out, HN.out.imp id fun ⟨q1, q2⟩ => ⟨q1, q2.imp (fun ⟨x, e1, e2, e3⟩ => ⟨x, e1, e2, ?_⟩) id⟩⟩
  exact Sh.rep_to (fun b hb hlt => ⟨ltle hlt HC9.out.size, HC9.out.block b hlt fun e => by have hb := hb.1; simp at hb; omega⟩) (fun b hb hlt => hb.to (by simp) (HC9.out.block b hlt fun e => by have hb := hb.1; simp at hb; omega)) _ _ _ e3
theorem ReadFact_any (w : World) {S : Nat → Prop} {v sent : Value} {bs : List UInt8} (h : Bs w S v bs) (hp : Pk w sent) :
    Calls Tryz.prog 17 #[v] w (FaceOut tFact w bs) :=
  (ReadFact_anyN w h hp).mono fun _ _ h => h.weak
end
section
open Go.RowKit Go.Maps
attribute [-simp] Tryz.isAgg36 Tryz.typeInfo36 Tryz.isAgg54 Tryz.typeInfo54
set_option maxHeartbeats 8000000 in
set_option maxRecDepth 100000 in
theorem rFact_any (w : World) {S : Nat → Prop} {x : tFact.El} {cs : List Value} (h : tFact.rep w S x cs) (hl : (tFact.enc x).length ≤ 1099511627776) :
    Calls Tryz.prog 19 #[.agg cs.toArray] w fun e w' => ∃ v', e = .returned v' ∧ Fresh w w' v' (tFact.enc x) := by
  obtain ⟨x0, x1, x2, x3, x4, _⟩ := x
  obtain ⟨c0, _, rfl, r0, c1, _, rfl, ⟨rfl, l1⟩, c2, _, rfl, ⟨y2, rfl, r2⟩, c3, _, rfl, rfl, c4, _, rfl, ⟨y4, rfl, r4⟩, rfl⟩ := h
  have l0 : c0.length = 38 := Sh.rep_size _ _ _ r0
  obtain ⟨y0, hy0⟩ : ∃ y, y = c0 := ⟨_, rfl⟩
  subst hy0
  have R0 := Lib.hid r0; clear r0
  have R2 := Lib.hid r2; clear r2
  have R4 := Lib.hid r4; clear r4
  obtain ⟨C, hC⟩ : ∃ C, C = y0 ++ (u8s x1 ++ ([y2] ++ ([Value.bool x3] ++ ([y4] ++ ([]))))) := ⟨_, rfl⟩
  rw [← hC]
  have hf : ∀ w', Blk w' w.heap.size 61 C.toArray → w'.rangeAt w.heap.size 0 y0 ∧ w'.rangeAt w.heap.size 38 (u8s x1) ∧ w'.cell? ⟨w.heap.size, 70, none⟩ = some y2 ∧ w'.cell? ⟨w.heap.size, 71, none⟩ = some (.bool x3) ∧ w'.cell? ⟨w.heap.size, 72, none⟩ = some y4 := fun w' hb => by
    have := hb.lies [y0, u8s x1, [y2], [Value.bool x3], [y4]] [] (by rw [hC]; simp)
    simp only [Lies, u8s_length, l0, l1, List.length_cons, List.length_nil] at this
    obtain ⟨s0, s1, s2, s3, s4, _⟩ := this
    exact ⟨s0, s1, Lies.one s2, Lies.one s3, Lies.one s4⟩
  have HF := Lib.hid hf
  clear hf hC
  have L0 := Lib.hid l0; clear l0
  have L1 := Lib.hid l1; clear l1
  have hl' : (joinB [tCommit.enc x0, x1, x2, truthB x3, x4]).length ≤ 1099511627776 := hl
  have HLL := Lib.hid hl'
  clear hl hl'
  go_enter Tryz.func19, Tryz.ntmps19
  have hbe := (Below.refl w.heap.size w).alloc (Nat.le_refl _) (.cells C.toArray 61)
  have hbx := Blk.new w 61 C.toArray
  have hbool := (HF.out _ hbx).2.2.2.1
  rw [hbx.cell] at hbool
  have hbool : C[71]? = some (.bool x3) := by simpa using hbool
  have HBE := Lib.hid hbe
  have HBX := Lib.hid hbx
  have hn2 : ∀ y : UInt8, Bs ((w.alloc (.cells C.toArray 61)).alloc (.cells #[.int .u8 y.toNat] 5)) (fun b => b = w.heap.size + 1) (.slice (some ⟨w.heap.size + 1, 0, none⟩) 1 1) [y] := fun y => by
    have := Bs.of_new (w.alloc (.cells C.toArray 61)) 5 [y] (by simp) (0, 0)
    rwa [show (w.alloc (.cells C.toArray 61)).heap.size = w.heap.size + 1 by simp] at this
  have HN2 := Lib.hid hn2
  clear hbe hbx hn2
  cases x3
  · go_wp2_with fail
    have hbw2 : Below w.heap.size w ((w.alloc (.cells C.toArray 61)).alloc (.cells #[.int .u8 0] 5)) := HBE.out.alloc (by simp) _
    have HB3 := Lib.hid (show Bs ((w.alloc (.cells C.toArray 61)).alloc (.cells #[.int .u8 0] 5)).drew (fun b => b = w.heap.size + 1) (.slice (some ⟨w.heap.size + 1, 0, none⟩) 1 1) (truthB false) from HN2.out 0)
    have hbox2 : Blk ((w.alloc (.cells C.toArray 61)).alloc (.cells #[.int .u8 0] 5)) w.heap.size 61 C.toArray := HBX.out.alloc _
    obtain ⟨wB, hwB⟩ : ∃ wB, wB = (w.alloc (.cells C.toArray 61)).alloc (.cells #[.int .u8 0] 5) := ⟨_, rfl⟩
    rw [← hwB] at hbw2 HB3 hbox2 ⊢
    have HWB := Lib.hid hwB; clear hwB
    have hsz := hbox2.lt
    have hb0 : Blk wB.drew w.heap.size 61 C.toArray := hbox2.drew
    have hbw : Below w.heap.size w wB.drew := (hbw2).drew
    have D1 := Lib.hid (Bs.of_range32 (S := fun b => b = w.heap.size) rfl hb0.lt ((HF.out _ hb0).2.1) L1.out)
    refine wp_region_hoist [0, 1, 3, 4, 5, 6, 7, 8, 9] [2] [10, 11, 12] (fun w' => Blk w' w.heap.size 61 C.toArray)
      (by kernel_rfl) (by kernel_rfl) (by kernel_rfl) (by kernel_rfl) (by kernel_rfl) (by kernel_rfl) hb0 ?_
    (refine HoistK.yes (by rfl) (by kernel_rfl) ⟨?_, fun w' hSw => ?_, ?_⟩; rotate_left; (· go_simp; try with_reducible rfl); simp only [Act.put, setIfInBounds_toArray, getElem_toArray, getElem_cons_zero, set_cons_succ, set_cons_zero])
    (refine HoistK.load (by rfl) (by kernel_rfl) 54 _ rfl w.heap.size 0 rfl (y0) _ (fun w' hw => (HF.out w' hw).1) Tryz.underlying54 rfl (by rw [L0.out]; kernel_rfl) ?_; simp only [Act.put, setIfInBounds_toArray, getElem_toArray, getElem_cons_succ, getElem_cons_zero, set_cons_succ, set_cons_zero])
    iterate 3 (refine HoistK.yes (by rfl) (by kernel_rfl) ⟨?_, fun w' hSw => ?_, ?_⟩; rotate_left; (· go_simp; try with_reducible rfl); simp only [Act.put, setIfInBounds_toArray, getElem_toArray, getElem_cons_succ, getElem_cons_zero, set_cons_succ, set_cons_zero])
    (refine HoistK.yes (by rfl) (by kernel_rfl) ⟨?_, fun w' hSw => ?_, ?_⟩; rotate_left; (· obtain ⟨s0, s1, s2, s3, s4⟩ := HF.out _ hSw; go_simp; try with_reducible rfl); simp only [Act.put, setIfInBounds_toArray, getElem_toArray, getElem_cons_succ, getElem_cons_zero, set_cons_succ, set_cons_zero])
    iterate 2 (refine HoistK.yes (by rfl) (by kernel_rfl) ⟨?_, fun w' hSw => ?_, ?_⟩; rotate_left; (· go_simp; try with_reducible rfl); simp only [Act.put, setIfInBounds_toArray, getElem_toArray, getElem_cons_succ, getElem_cons_zero, set_cons_succ, set_cons_zero])
    (refine HoistK.yes (by rfl) (by kernel_rfl) ⟨?_, fun w' hSw => ?_, ?_⟩; rotate_left; (· obtain ⟨s0, s1, s2, s3, s4⟩ := HF.out _ hSw; go_simp; try with_reducible rfl); simp only [Act.put, setIfInBounds_toArray, getElem_toArray, getElem_cons_succ, getElem_cons_zero, set_cons_succ, set_cons_zero])
    refine HoistK.nil_ ?_
    simp only [opsAt, filterMap_cons, filterMap_nil, getElem?_toArray, getElem?_cons_succ, getElem?_cons_zero]
    have g0 : Got wB.drew wB.drew [] [] := Got.start (Below.refl _ _)
    refine Effects.cons_ fun _ hQ1 => ?_
    go_wp2_with fail
    refine (rCommit_any _ (Sh.rep_below R0.out (hbw.trans (g0.1.mono hbw.size))) (by have h1 := HLL.out; rw [joinB_length] at h1; have h2 := joinP_mem (l := [tCommit.enc x0, x1, x2, truthB false, x4]) (x := tCommit.enc x0) (by simp); omega)).mono ?_
    rintro e u1 ⟨v1, rfl, f1⟩
    have g1 := g0.step f1
    have hb1 := hb0.below f1.2 hb0.lt
    clear f1
    go_wp2_with fail
    refine hQ1 _ _ hb1 (Effects.nil_ fun _ hQ2 => ?_)
    clear hQ1 hb0 g0
    have g2 := g1.old D1.out
    clear g1
    have g3 := g2.old (R2.out.below hbw)
    clear g2
    have g4 := g3.old HB3.out
    clear g3
    have g5 := g4.old (R4.out.below hbw)
    clear g4
    have hcs : ∀ v ∈ [v1, (.slice (some ⟨w.heap.size, 38, none⟩) 32 32), y2, (.slice (some ⟨w.heap.size + 1, 0, none⟩) 1 1), y4], v.cells = #[v] := fun v hv => by
      obtain ⟨i, hi, rfl⟩ := List.getElem_of_mem hv
      obtain ⟨y, _, hr⟩ := g5.2.get i hi
      obtain ⟨A, c, e⟩ := hr.form
      have e' : [v1, (.slice (some ⟨w.heap.size, 38, none⟩) 32 32), y2, (.slice (some ⟨w.heap.size + 1, 0, none⟩) 1 1), y4][i] = .slice A y.length c := e
      rw [e']; rfl
    refine wpList_rows rfl 5 _ rfl [v1, (.slice (some ⟨w.heap.size, 38, none⟩) 32 32), y2, (.slice (some ⟨w.heap.size + 1, 0, none⟩) 1 1), y4] rfl (by decide) (by decide) hcs (by simp [Act.eval]) ?_
    have hr : Bsr (u1.alloc (.cells [v1, (.slice (some ⟨w.heap.size, 38, none⟩) 32 32), y2, (.slice (some ⟨w.heap.size + 1, 0, none⟩) 1 1), y4].toArray 22)) (fun b => b < u1.heap.size + 1) (.slice (some ⟨u1.heap.size, 0, none⟩) 5 5) [tCommit.enc x0, x1, x2, truthB false, x4] := g5.row (by simp [maxLen]) 22
    have hj := rJoin_any _ hr (by have := HLL.out; omega) (fun b hb => by simpa using hb)
    have hbb : Below w.heap.size w (u1.alloc (.cells [v1, (.slice (some ⟨w.heap.size, 38, none⟩) 32 32), y2, (.slice (some ⟨w.heap.size + 1, 0, none⟩) 1 1), y4].toArray 22)) := (hbw.trans (g5.1.mono hbw.size)).alloc (hbw.trans (g5.1.mono hbw.size)).size _
    have HJ := Lib.hid hj
    have HBB := Lib.hid hbb
    clear hj hbb hr g5 hcs
    go_wp2_with fail
    refine HJ.out.mono ?_
    rintro e uz ⟨vz, rfl, fz⟩
    go_wp2_with fail
    go_ret
    exact ⟨vz, rfl, fz.1.sub fun b hb _ => ⟨Nat.le_trans HBB.out.size hb.1, hb.2⟩, HBB.out.trans (fz.2.mono HBB.out.size)⟩
  · go_wp2_with fail
    have hbw2 : Below w.heap.size w ((w.alloc (.cells C.toArray 61)).alloc (.cells #[.int .u8 1] 5)) := HBE.out.alloc (by simp) _
    have HB3 := Lib.hid (show Bs ((w.alloc (.cells C.toArray 61)).alloc (.cells #[.int .u8 1] 5)).drew (fun b => b = w.heap.size + 1) (.slice (some ⟨w.heap.size + 1, 0, none⟩) 1 1) (truthB true) from HN2.out 1)
    have hbox2 : Blk ((w.alloc (.cells C.toArray 61)).alloc (.cells #[.int .u8 1] 5)) w.heap.size 61 C.toArray := HBX.out.alloc _
    obtain ⟨wB, hwB⟩ : ∃ wB, wB = (w.alloc (.cells C.toArray 61)).alloc (.cells #[.int .u8 1] 5) := ⟨_, rfl⟩
    rw [← hwB] at hbw2 HB3 hbox2 ⊢
    have HWB := Lib.hid hwB; clear hwB
    have hsz := hbox2.lt
    have hb0 : Blk wB.drew w.heap.size 61 C.toArray := hbox2.drew
    have hbw : Below w.heap.size w wB.drew := (hbw2).drew
    have D1 := Lib.hid (Bs.of_range32 (S := fun b => b = w.heap.size) rfl hb0.lt ((HF.out _ hb0).2.1) L1.out)
    refine wp_region_hoist [0, 1, 3, 4, 5, 6, 7, 8, 9] [2] [10, 11, 12] (fun w' => Blk w' w.heap.size 61 C.toArray)
      (by kernel_rfl) (by kernel_rfl) (by kernel_rfl) (by kernel_rfl) (by kernel_rfl) (by kernel_rfl) hb0 ?_
    (refine HoistK.yes (by rfl) (by kernel_rfl) ⟨?_, fun w' hSw => ?_, ?_⟩; rotate_left; (· go_simp; try with_reducible rfl); simp only [Act.put, setIfInBounds_toArray, getElem_toArray, getElem_cons_zero, set_cons_succ, set_cons_zero])
    (refine HoistK.load (by rfl) (by kernel_rfl) 54 _ rfl w.heap.size 0 rfl (y0) _ (fun w' hw => (HF.out w' hw).1) Tryz.underlying54 rfl (by rw [L0.out]; kernel_rfl) ?_; simp only [Act.put, setIfInBounds_toArray, getElem_toArray, getElem_cons_succ, getElem_cons_zero, set_cons_succ, set_cons_zero])
    iterate 3 (refine HoistK.yes (by rfl) (by kernel_rfl) ⟨?_, fun w' hSw => ?_, ?_⟩; rotate_left; (· go_simp; try with_reducible rfl); simp only [Act.put, setIfInBounds_toArray, getElem_toArray, getElem_cons_succ, getElem_cons_zero, set_cons_succ, set_cons_zero])
    (refine HoistK.yes (by rfl) (by kernel_rfl) ⟨?_, fun w' hSw => ?_, ?_⟩; rotate_left; (· obtain ⟨s0, s1, s2, s3, s4⟩ := HF.out _ hSw; go_simp; try with_reducible rfl); simp only [Act.put, setIfInBounds_toArray, getElem_toArray, getElem_cons_succ, getElem_cons_zero, set_cons_succ, set_cons_zero])
    iterate 2 (refine HoistK.yes (by rfl) (by kernel_rfl) ⟨?_, fun w' hSw => ?_, ?_⟩; rotate_left; (· go_simp; try with_reducible rfl); simp only [Act.put, setIfInBounds_toArray, getElem_toArray, getElem_cons_succ, getElem_cons_zero, set_cons_succ, set_cons_zero])
    (refine HoistK.yes (by rfl) (by kernel_rfl) ⟨?_, fun w' hSw => ?_, ?_⟩; rotate_left; (· obtain ⟨s0, s1, s2, s3, s4⟩ := HF.out _ hSw; go_simp; try with_reducible rfl); simp only [Act.put, setIfInBounds_toArray, getElem_toArray, getElem_cons_succ, getElem_cons_zero, set_cons_succ, set_cons_zero])
    refine HoistK.nil_ ?_
    simp only [opsAt, filterMap_cons, filterMap_nil, getElem?_toArray, getElem?_cons_succ, getElem?_cons_zero]
    have g0 : Got wB.drew wB.drew [] [] := Got.start (Below.refl _ _)
    refine Effects.cons_ fun _ hQ1 => ?_
    go_wp2_with fail
    refine (rCommit_any _ (Sh.rep_below R0.out (hbw.trans (g0.1.mono hbw.size))) (by have h1 := HLL.out; rw [joinB_length] at h1; have h2 := joinP_mem (l := [tCommit.enc x0, x1, x2, truthB true, x4]) (x := tCommit.enc x0) (by simp); omega)).mono ?_
    rintro e u1 ⟨v1, rfl, f1⟩
    have g1 := g0.step f1
    have hb1 := hb0.below f1.2 hb0.lt
    clear f1
    go_wp2_with fail
    refine hQ1 _ _ hb1 (Effects.nil_ fun _ hQ2 => ?_)
    clear hQ1 hb0 g0
    have g2 := g1.old D1.out
    clear g1
    have g3 := g2.old (R2.out.below hbw)
    clear g2
    have g4 := g3.old HB3.out
    clear g3
    have g5 := g4.old (R4.out.below hbw)
    clear g4
    have hcs : ∀ v ∈ [v1, (.slice (some ⟨w.heap.size, 38, none⟩) 32 32), y2, (.slice (some ⟨w.heap.size + 1, 0, none⟩) 1 1), y4], v.cells = #[v] := fun v hv => by
      obtain ⟨i, hi, rfl⟩ := List.getElem_of_mem hv
      obtain ⟨y, _, hr⟩ := g5.2.get i hi
      obtain ⟨A, c, e⟩ := hr.form
      have e' : [v1, (.slice (some ⟨w.heap.size, 38, none⟩) 32 32), y2, (.slice (some ⟨w.heap.size + 1, 0, none⟩) 1 1), y4][i] = .slice A y.length c := e
      rw [e']; rfl
    refine wpList_rows rfl 5 _ rfl [v1, (.slice (some ⟨w.heap.size, 38, none⟩) 32 32), y2, (.slice (some ⟨w.heap.size + 1, 0, none⟩) 1 1), y4] rfl (by decide) (by decide) hcs (by simp [Act.eval]) ?_
    have hr : Bsr (u1.alloc (.cells [v1, (.slice (some ⟨w.heap.size, 38, none⟩) 32 32), y2, (.slice (some ⟨w.heap.size + 1, 0, none⟩) 1 1), y4].toArray 22)) (fun b => b < u1.heap.size + 1) (.slice (some ⟨u1.heap.size, 0, none⟩) 5 5) [tCommit.enc x0, x1, x2, truthB true, x4] := g5.row (by simp [maxLen]) 22
    have hj := rJoin_any _ hr (by have := HLL.out; omega) (fun b hb => by simpa using hb)
    have hbb : Below w.heap.size w (u1.alloc (.cells [v1, (.slice (some ⟨w.heap.size, 38, none⟩) 32 32), y2, (.slice (some ⟨w.heap.size + 1, 0, none⟩) 1 1), y4].toArray 22)) := (hbw.trans (g5.1.mono hbw.size)).alloc (hbw.trans (g5.1.mono hbw.size)).size _
    have HJ := Lib.hid hj
    have HBB := Lib.hid hbb
    clear hj hbb hr g5 hcs
    go_wp2_with fail
    refine HJ.out.mono ?_
    rintro e uz ⟨vz, rfl, fz⟩
    go_wp2_with fail
    go_ret
    exact ⟨vz, rfl, fz.1.sub fun b hb _ => ⟨Nat.le_trans HBB.out.size hb.1, hb.2⟩, HBB.out.trans (fz.2.mono HBB.out.size)⟩
end
section
open Go.RowKit Go.Maps
attribute [-simp] Tryz.isAgg36 Tryz.typeInfo36 Tryz.isAgg54 Tryz.typeInfo54 Tryz.isAgg61 Tryz.typeInfo61
def zrFact : List Value := (zrCommit ++ (z32 ++ (([.slice none 0 0] : List Value) ++ (([.bool false] : List Value) ++ (([.slice none 0 0] : List Value) ++ ([] : List Value))))))
set_option maxRecDepth 100000 in
theorem zrFact_one : ∀ v ∈ zrFact, v.oneCell' = true := by decide
theorem zrFact_len : zrFact.length = 73 := by kernel_rfl
theorem zrFact_size : (Tryz.prog.info? 61).map (·.size) = some zrFact.length := by kernel_rfl
theorem zrFact_sizes : (Tryz.prog.info? 61).map (fun i => (i.zero.map (fun z => z.cells.size), i.size)) = some (some 73, 73) := by kernel_rfl
theorem zrFact_info : (Tryz.prog.info? 61).map (fun i => (i.zero, i.size, i.bytes)) = some (some (.agg zrFact.toArray), 73, 216) := by kernel_rfl
theorem zrFact_sized {C : List Value} (h : C.length = 73) : (Tryz.prog.info? 61).map (·.size) = some C.length := by rw [h]; kernel_rfl
set_option maxHeartbeats 8000000 in
set_option maxRecDepth 100000 in
theorem rReadFact_any (w : World) {S : Nat → Prop} {v : Value} {bs : List UInt8} (h : Bs w S v bs) (hlen : bs.length ≤ 1099511627776) :
    Calls Tryz.prog 18 #[v] w (RefOutZ tFact zrFact w bs) := by
  have hal := (Below.refl w.heap.size w).alloc (Nat.le_refl _) (.cells zrFact.toArray 61)
  have HS := Lib.hid (rsplit_any _ (h.below hal) hlen)
  have HR := Lib.hid (Blk.new w 61 zrFact.toArray)
  have HAL := Lib.hid hal
  have HLEN := Lib.hid hlen
  obtain ⟨A, cap, rfl⟩ := h.form
  clear h hal hlen
  go_enter Tryz.func18, Tryz.ntmps18
  go_wp2_with fail
  refine HS.out.mono ?_
  rintro e w1 ⟨hb1, hsp⟩
  have HR1 := Lib.hid (HR.out.below hb1 HR.out.lt)
  have HB1 := Lib.hid (HAL.out.trans (hb1.mono HAL.out.size))
  have hz01 : w.heap.size + 1 ≤ w1.heap.size := by have := hb1.size; simpa using this
  clear HR HAL HS hb1
  rcases hsp with ⟨hno, rfl⟩ | ⟨v1, l, hsp, rfl, hbss⟩
  · have HNO := Lib.hid (show Sh.dec tFact bs = none from by
      show (match splitB bs with | none => none | some l => Fs.decs _ l) = none
      rw [hno])
    have HRR := Lib.hid HR1.out
    have HB0 := Lib.hid HB1.out
    clear hno HR1 HB1
    go_wp2_with (refine wpList_store_blk (cs0 := zrFact) (cs := zrFact) rfl 61 _ _ rfl HRR.out rfl rfl rfl zrFact_size zrFact_one ?_; intro w9 hb9 hc9; have HB9 := Lib.hid hb9; have HC9 := Lib.hid hc9; clear hb9 hc9)
    have hld := run_loadVar_mid (P := Tryz.prog) w9 w.heap.size 0 61 zrFact _ HB9.out.range Tryz.underlying61 rfl zrFact_size
    refine bodyPost_ret (v := .tuple #[.agg (zrFact).toArray, .bool false]) (by simp [results, Tryz.results18, asAddr, hld]) rfl ?_
    exact ⟨HB0.out.trans (HC9.out.below HB0.out.size fun b h => Nat.le_of_eq h.symm), _, true, rfl, ⟨zrFact_len, zrFact_one, .inr ⟨HNO.out, rfl⟩⟩, fun _ => rfl⟩
  by_cases hln : l.length = 5
  rotate_left
  · have HNO := Lib.hid (show Sh.dec tFact bs = none from by
      show (match splitB bs with | none => none | some l => Fs.decs _ l) = none
      rw [hsp]
      cases hd : Fs.decs (.cons tCommit (.cons .dig (.cons .byt (.cons .bool (.cons .byt .nil))))) l with
      | none => exact hd
      | some x => exact absurd (Fs.decs_len _ l x hd) hln)
    have HRR := Lib.hid HR1.out
    have HB0 := Lib.hid HB1.out
    obtain ⟨A1, c1, rfl⟩ := hbss.form
    have hlI : ¬ (l.length : Int) = 5 := by omega
    clear hsp HR1 HB1 hbss
    go_wp2_with (refine wpList_store_blk (cs0 := zrFact) (cs := zrFact) rfl 61 _ _ rfl HRR.out rfl rfl rfl zrFact_size zrFact_one ?_; intro w9 hb9 hc9; have HB9 := Lib.hid hb9; have HC9 := Lib.hid hc9; clear hb9 hc9)
    have hld := run_loadVar_mid (P := Tryz.prog) w9 w.heap.size 0 61 zrFact _ HB9.out.range Tryz.underlying61 rfl zrFact_size
    refine bodyPost_ret (v := .tuple #[.agg (zrFact).toArray, .bool false]) (by simp [results, Tryz.results18, asAddr, hld]) rfl ?_
    exact ⟨HB0.out.trans (HC9.out.below HB0.out.size fun b h => Nat.le_of_eq h.symm), _, true, rfl, ⟨zrFact_len, zrFact_one, .inr ⟨HNO.out, rfl⟩⟩, fun _ => rfl⟩
  have HSP := Lib.hid hsp
  have hrl : ∀ y ∈ l, y.length ≤ 1099511627776 := fun y hy => Nat.le_trans (joinP_mem_le hsp y hy) HLEN.out
  obtain ⟨A1, c1, rfl⟩ := hbss.form
  have hall := Bsr.all (hbss.read fun y hy => by have := hrl y hy; omega) (by omega)
  obtain ⟨r0, r1, r2, r3, r4, rfl⟩ : ∃ r0 r1 r2 r3 r4, l = [r0, r1, r2, r3, r4] := by
    match l, hln with
    | [r0, r1, r2, r3, r4], _ => exact ⟨r0, r1, r2, r3, r4, rfl⟩
  have HRL := Lib.hid hrl
  obtain ⟨ba, oa, rfl, _, hba, hall⟩ := hall
  obtain ⟨A_0, c_0, hc_0, hr_0⟩ := hall 0 r0 rfl
  have HC_0 := Lib.hid hc_0
  have HR_0 := Lib.hid (hr_0.sub (T := fun b => b < w1.heap.size) fun _ _ h => h)
  obtain ⟨A_1, c_1, hc_1, hr_1⟩ := hall 1 r1 rfl
  have HC_1 := Lib.hid hc_1
  have HR_1 := Lib.hid (hr_1.sub (T := fun b => b < w1.heap.size) fun _ _ h => h)
  obtain ⟨A_2, c_2, hc_2, hr_2⟩ := hall 2 r2 rfl
  have HC_2 := Lib.hid hc_2
  have HR_2 := Lib.hid (hr_2.sub (T := fun b => b < w1.heap.size) fun _ _ h => h)
  obtain ⟨A_3, c_3, hc_3, hr_3⟩ := hall 3 r3 rfl
  have HC_3 := Lib.hid hc_3
  have HR_3 := Lib.hid (hr_3.sub (T := fun b => b < w1.heap.size) fun _ _ h => h)
  obtain ⟨A_4, c_4, hc_4, hr_4⟩ := hall 4 r4 rfl
  have HC_4 := Lib.hid hc_4
  have HR_4 := Lib.hid (hr_4.sub (T := fun b => b < w1.heap.size) fun _ _ h => h)
  clear hall hbss hsp hrl hln hc_0 hr_0 hc_1 hr_1 hc_2 hr_2 hc_3 hr_3 hc_4 hr_4
  go_wp2_with (refine wpList_store_blk (cs0 := zrFact) (cs := zrFact) rfl 61 _ _ rfl (Blk.new w1 _ _) rfl rfl rfl zrFact_size zrFact_one ?_; intro w2 hb2 hc2; have HX2 := Lib.hid (show Blk w2 w1.heap.size 61 (([] : List Value) ++ (zrCommit ++ (z32 ++ (([.slice none 0 0] : List Value) ++ (([.bool false] : List Value) ++ (([.slice none 0 0] : List Value) ++ ([] : List Value))))))).toArray from hb2); have HP2 := Lib.hid (show Chg (fun b => b = w1.heap.size) w1 w2 from ((Chg.refl _ w1).alloc _).trans hc2 fun b h => .inl h); have hz2 : w1.heap.size + 1 ≤ w2.heap.size := (by have := hb2.lt; omega); have hcl0 : w2.cell? ⟨ba, oa, none⟩ = some (.slice A_0 r0.length c_0) := (World.cell?_of_block (a := ⟨ba, oa, none⟩) (HP2.out.block ba hba (fun e => by have e : ba = w1.heap.size := e; omega))).trans HC_0.out; clear hb2 hc2)
  refine (rReadCommit_any _ (HR_0.out.chg HP2.out fun b hb h => by have h : b = w1.heap.size := h; omega) (HRL.out _ (by simp))).mono ?_
  rintro e wa0 ⟨hba0, q0, g0, rfl, hs0, _⟩
  have hl0 : q0.length = 38 := hs0.1
  have HL0 := Lib.hid hl0
  have H10 := Lib.hid hs0.2.1
  have HI0 := Lib.hid (zrCommit_sized hl0)
  have HZ0 := Lib.hid (show (zrCommit).length = q0.length from by rw [hl0]; exact zrCommit_len)
  have HXa0 := Lib.hid (HX2.out.below hba0 HX2.out.lt)
  have HBA0 := Lib.hid hba0
  have HS0 := Lib.hid hs0
  have hza0 := hba0.size
  clear hba0 hs0 hl0 hcl0
  have HPL0 := Lib.hid (show (([] : List Value)).length = 0 from by simp)
  go_simp
  repeat (first
    | (go_big_may; refine wpList_store_blk (cs0 := zrCommit) (cs := q0) rfl 54 _ _ rfl (Blk.new wa0 _ _) rfl rfl HZ0.out HI0.out H10.out ?_; intro wb0 hbb hcb; have HBB0 := Lib.hid hbb; have HCB0 := Lib.hid (show Chg (fun _ => False) wa0 wb0 from ((Chg.refl _ wa0).alloc _).trans hcb fun b h => .inr (Nat.le_of_eq h.symm)); have HXb0 := Lib.hid (HXa0.out.chg HCB0.out id); clear hbb hcb)
    | (go_big_may; refine wpList_load_blk' rfl 54 _ rfl HBB0.out rfl Tryz.underlying54 rfl HI0.out ?_)
    | (go_big_may; refine wpList_store_part (pre := ([] : List Value)) (old := zrCommit) (vals := q0) (post := (z32 ++ (([.slice none 0 0] : List Value) ++ (([.bool false] : List Value) ++ (([.slice none 0 0] : List Value) ++ ([] : List Value)))))) rfl 54 _ _ rfl HXb0.out HPL0.out rfl (v := .agg q0.toArray) rfl rfl HZ0.out HI0.out H10.out ?_; intro w3 hbn hcn; have HX3 := Lib.hid hbn; have HC2 := Lib.hid (show Chg (fun b => b = w1.heap.size) w2 w3 from (((Chg.of_below HBA0.out fun b => b = w1.heap.size).trans HCB0.out fun b h => h.elim).trans hcn fun b h => .inl h)); have HCD0 := Lib.hid (show Chg (fun b => b = w1.heap.size) wa0 w3 from (HCB0.out.mono (M' := fun b => b = w1.heap.size) fun _ h => h.elim).trans hcn fun b h => .inl h); have HP3 := Lib.hid (HP2.out.trans HC2.out fun b h => .inl h); have hz3 := Nat.le_trans hz2 HC2.out.size; have hcl1 : w3.cell? ⟨ba, oa + 1, none⟩ = some (.slice A_1 r1.length c_1) := (World.cell?_of_block (a := ⟨ba, oa + 1, none⟩) (HP3.out.block ba hba (fun e => by have e : ba = w1.heap.size := e; omega))).trans HC_1.out; clear hbn hcn)
    | go_values | go_skip | go_guarded | go_step | go_upon)
  refine (rdig_out _ (HR_1.out.chg HP3.out fun b hb h => by have h : b = w1.heap.size := h; omega)).mono ?_
  rintro e wa1 ⟨hba1, q1, g1, rfl, hs1⟩
  have hl1 : q1.length = 32 := hs1.1
  have HL1 := Lib.hid hl1
  have H11 := Lib.hid hs1.2.1
  have HI1 := Lib.hid (z32_sized hl1)
  have HZ1 := Lib.hid (show (z32).length = q1.length from by rw [hl1]; exact z32_len)
  have HXa1 := Lib.hid (HX3.out.below hba1 HX3.out.lt)
  have HBA1 := Lib.hid hba1
  have HS1 := Lib.hid hs1
  have hza1 := hba1.size
  clear hba1 hs1 hl1 hcl1
  have HPL1 := Lib.hid (show ((([] : List Value) ++ q0)).length = 38 from by simp [HL0.out])
  go_simp
  repeat (first
    | ((with_reducible (show wpList _ _ _ (⟨_, .move _, _, _, _, some _⟩ :: _) _ _)); refine wpList_and g0 g1 _ _ _ rfl rfl rfl (by cases g0 <;> rfl) rfl (fun _ => rfl) (fun _ => rfl) ?_; intro vA1 k1 hk1; have HK1 := Lib.hid hk1; clear hk1; refine Hid.out ?_)
    | (go_big_may; refine wpList_store_blk (cs0 := z32) (cs := q1) rfl 36 _ _ rfl (Blk.new wa1 _ _) rfl rfl HZ1.out HI1.out H11.out ?_; intro wb1 hbb hcb; have HBB1 := Lib.hid hbb; have HCB1 := Lib.hid (show Chg (fun _ => False) wa1 wb1 from ((Chg.refl _ wa1).alloc _).trans hcb fun b h => .inr (Nat.le_of_eq h.symm)); have HXb1 := Lib.hid (HXa1.out.chg HCB1.out id); clear hbb hcb)
    | (go_big_may; refine wpList_load_blk' rfl 36 _ rfl HBB1.out rfl Tryz.underlying36 rfl HI1.out ?_)
    | (go_big_may; refine wpList_store_part (pre := (([] : List Value) ++ q0)) (old := z32) (vals := q1) (post := (([.slice none 0 0] : List Value) ++ (([.bool false] : List Value) ++ (([.slice none 0 0] : List Value) ++ ([] : List Value))))) rfl 36 _ _ rfl HXb1.out HPL1.out rfl (v := .agg q1.toArray) rfl rfl HZ1.out HI1.out H11.out ?_; intro w4 hbn hcn; have HX4 := Lib.hid hbn; have HC3 := Lib.hid (show Chg (fun b => b = w1.heap.size) w3 w4 from (((Chg.of_below HBA1.out fun b => b = w1.heap.size).trans HCB1.out fun b h => h.elim).trans hcn fun b h => .inl h)); have HCD1 := Lib.hid (show Chg (fun b => b = w1.heap.size) wa1 w4 from (HCB1.out.mono (M' := fun b => b = w1.heap.size) fun _ h => h.elim).trans hcn fun b h => .inl h); have HP4 := Lib.hid (HP3.out.trans HC3.out fun b h => .inl h); have hz4 := Nat.le_trans hz3 HC3.out.size; have hcl2 : w4.cell? ⟨ba, oa + 2, none⟩ = some (.slice A_2 r2.length c_2) := (World.cell?_of_block (a := ⟨ba, oa + 2, none⟩) (HP4.out.block ba hba (fun e => by have e : ba = w1.heap.size := e; omega))).trans HC_2.out; clear hbn hcn)
    | go_values | go_skip | go_guarded | go_step | go_upon)
  refine Lib.hid ?_
  have HPL2 := Lib.hid (show (((([] : List Value) ++ q0) ++ q1)).length = 70 from by simp [HL0.out, HL1.out])
  have H632 := Lib.hid (show 0 + r2.length ≤ maxLen ∧ (0 + r2.length) * 1 ≤ 140737488355328 from by have := HRL.out r2 (by simp); exact ⟨by simp only [maxLen]; omega, by omega⟩)
  have HRW2 := Lib.hid (HR_2.out.chg HP4.out fun b hb h => by have h : b = w1.heap.size := h; omega)
  have hcl2 : (w4.alloc (.cells #[] 5)).cell? ⟨ba, oa + 2, none⟩ = some (.slice A_2 r2.length c_2) := (World.cell?_of_block (a := ⟨ba, oa + 2, none⟩) (((HP4.out.alloc _).block ba hba (fun e => by have e : ba = w1.heap.size := e; omega)))).trans HC_2.out
  repeat (first
    | (go_big_may; at_builtin; refine wpList_app _ rfl _ _ _ rfl Tryz.underlying22 info_u8 rfl (by decide) (Own.empty w4 5 1) rfl (HRW2.out.1.below ((Below.refl _ w4).alloc (Nat.le_refl _) _)) rfl (u8s_one _) H632.out.1 H632.out.2 ?_; intro v2 wv2 ho2 hc2 hn2 hat2; clear hn2; obtain ⟨V2, e2, hv2⟩ := ho2.form; rw [Nat.zero_add] at hv2; subst hv2; have HBY2 := Lib.hid (SOut.byt_ ho2 hc2 hat2 HRW2.out.2); have HCV2 := Lib.hid (show Chg (fun b => b = w4.heap.size) w4 wv2 from ((Chg.refl _ w4).alloc _).trans hc2 fun b h => .inl (by simp [Value.ownBlock] at h; exact h.symm)); have HXa2 := Lib.hid ((HX4.out.alloc _).chg hc2 fun h => by simp [Value.ownBlock] at h; omega); clear ho2 hc2 hat2)
    | (go_big_may; refine wpList_store_part (pre := ((([] : List Value) ++ q0) ++ q1)) (old := ([.slice none 0 0] : List Value)) (vals := ([.slice V2 r2.length e2] : List Value)) (post := (([.bool false] : List Value) ++ (([.slice none 0 0] : List Value) ++ ([] : List Value)))) rfl 22 _ _ rfl HXa2.out HPL2.out rfl (v := .slice V2 r2.length e2) rfl rfl (by simp only [List.length_cons, List.length_nil]) (by kernel_rfl) (fun u hu => by obtain rfl := List.mem_singleton.1 hu; rfl) ?_; intro w5 hbn hcn; have HX5 := Lib.hid hbn; have HC4 := Lib.hid (show Chg (fun b => b = w1.heap.size) w4 w5 from (HCV2.out.new_.mono (M' := fun b => b = w1.heap.size) fun _ h => h.elim).trans hcn fun b h => .inl h); have HCD2 := Lib.hid hcn; have HP5 := Lib.hid (HP4.out.trans HC4.out fun b h => .inl h); have hz5 := Nat.le_trans hz4 HC4.out.size; have hcl3 : w5.cell? ⟨ba, oa + 3, none⟩ = some (.slice A_3 r3.length c_3) := (World.cell?_of_block (a := ⟨ba, oa + 3, none⟩) (HP5.out.block ba hba (fun e => by have e : ba = w1.heap.size := e; omega))).trans HC_3.out; clear hbn hcn; refine Hid.out ?_)
    | go_values | go_skip | go_guarded | go_step | go_upon)
  refine Lib.hid ?_
  have HPL3 := Lib.hid (show ((((([] : List Value) ++ q0) ++ q1) ++ ([.slice V2 r2.length e2] : List Value))).length = 71 from by simp [HL0.out, HL1.out])
  cases k1
  · by_cases h1 : r3.length = 1
    · obtain ⟨y, rfl⟩ := List.length_eq_one_iff.1 h1
      have hrw := (HR_3.out.chg HP5.out fun b hb h => by have h : b = w1.heap.size := h; omega)
      obtain ⟨⟨_, A', c', e, _, _, hp⟩, _⟩ := hrw
      injection e with ea eb ec
      subst ea ec
      obtain ⟨b3, o3, rfl, _, _, hc⟩ := hp (by simp)
      obtain ⟨m, hm⟩ : ∃ m, m = y.toNat := ⟨_, rfl⟩
      have hm0 : w5.cell? ⟨b3, o3, none⟩ = some (.int .u8 m) := by rw [hm]; exact hc 0 _ rfl
      have HM := Lib.hid hm
      have hm256 : m < 256 := by rw [hm]; exact y.toNat_lt
      simp only [List.length_cons, List.length_nil, Nat.zero_add] at hcl3
      clear hp hc hm
      by_cases h2 : m < 2
      · skip
        have h2I : (m : Int) < 2 := by omega
        go_wp2_with (refine wpList_store_part (pre := (((([] : List Value) ++ q0) ++ q1) ++ ([.slice V2 r2.length e2] : List Value))) (old := ([.bool false] : List Value)) (vals := ([.bool ((m : Int) == 1)] : List Value)) (post := (([.slice none 0 0] : List Value) ++ ([] : List Value))) rfl 4 _ _ rfl HX5.out HPL3.out rfl (v := .bool ((m : Int) == 1)) rfl rfl (by simp only [List.length_cons, List.length_nil]) (by kernel_rfl) (fun u hu => by obtain rfl := List.mem_singleton.1 hu; rfl) ?_; intro w6 hbn hcn; have HX6 := Lib.hid hbn; have HC5 := Lib.hid hcn; have HP6 := Lib.hid (HP5.out.trans HC5.out fun b h => .inl h); have hz6 := Nat.le_trans hz5 HC5.out.size; have hcl4 : w6.cell? ⟨ba, oa + 4, none⟩ = some (.slice A_4 r4.length c_4) := (World.cell?_of_block (a := ⟨ba, oa + 4, none⟩) (HP6.out.block ba hba (fun e => by have e : ba = w1.heap.size := e; omega))).trans HC_4.out; clear hbn hcn; refine Hid.out ?_)
        refine Lib.hid ?_
        have HPL4 := Lib.hid (show (((((([] : List Value) ++ q0) ++ q1) ++ ([.slice V2 r2.length e2] : List Value)) ++ ([.bool ((m : Int) == 1)] : List Value))).length = 72 from by simp [HL0.out, HL1.out])
        have H634 := Lib.hid (show 0 + r4.length ≤ maxLen ∧ (0 + r4.length) * 1 ≤ 140737488355328 from by have := HRL.out r4 (by simp); exact ⟨by simp only [maxLen]; omega, by omega⟩)
        have HRW4 := Lib.hid (HR_4.out.chg HP6.out fun b hb h => by have h : b = w1.heap.size := h; omega)
        have hcl4 : (w6.alloc (.cells #[] 5)).cell? ⟨ba, oa + 4, none⟩ = some (.slice A_4 r4.length c_4) := (World.cell?_of_block (a := ⟨ba, oa + 4, none⟩) (((HP6.out.alloc _).block ba hba (fun e => by have e : ba = w1.heap.size := e; omega)))).trans HC_4.out
        repeat (first
          | (go_big_may; at_builtin; refine wpList_app _ rfl _ _ _ rfl Tryz.underlying22 info_u8 rfl (by decide) (Own.empty w6 5 1) rfl (HRW4.out.1.below ((Below.refl _ w6).alloc (Nat.le_refl _) _)) rfl (u8s_one _) H634.out.1 H634.out.2 ?_; intro v2 wv4 ho2 hc2 hn2 hat2; clear hn2; obtain ⟨V4, e4, hv2⟩ := ho2.form; rw [Nat.zero_add] at hv2; subst hv2; have HBY4 := Lib.hid (SOut.byt_ ho2 hc2 hat2 HRW4.out.2); have HCV4 := Lib.hid (show Chg (fun b => b = w6.heap.size) w6 wv4 from ((Chg.refl _ w6).alloc _).trans hc2 fun b h => .inl (by simp [Value.ownBlock] at h; exact h.symm)); have HXa4 := Lib.hid ((HX6.out.alloc _).chg hc2 fun h => by simp [Value.ownBlock] at h; omega); clear ho2 hc2 hat2)
          | (go_big_may; refine wpList_store_part (pre := ((((([] : List Value) ++ q0) ++ q1) ++ ([.slice V2 r2.length e2] : List Value)) ++ ([.bool ((m : Int) == 1)] : List Value))) (old := ([.slice none 0 0] : List Value)) (vals := ([.slice V4 r4.length e4] : List Value)) (post := ([] : List Value)) rfl 22 _ _ rfl HXa4.out HPL4.out rfl (v := .slice V4 r4.length e4) rfl rfl (by simp only [List.length_cons, List.length_nil]) (by kernel_rfl) (fun u hu => by obtain rfl := List.mem_singleton.1 hu; rfl) ?_; intro w7 hbn hcn; have HX7 := Lib.hid hbn; have HC6 := Lib.hid (show Chg (fun b => b = w1.heap.size) w6 w7 from (HCV4.out.new_.mono (M' := fun b => b = w1.heap.size) fun _ h => h.elim).trans hcn fun b h => .inl h); have HCD4 := Lib.hid hcn; have HP7 := Lib.hid (HP6.out.trans HC6.out fun b h => .inl h); have hz7 := Nat.le_trans hz6 HC6.out.size; clear hbn hcn; refine Hid.out ?_)
          | go_values | go_skip | go_guarded | go_step | go_upon)
        refine Lib.hid ?_
        have HRR := Lib.hid ((HR1.out.chg HP7.out (fun h => by have h : w.heap.size = w1.heap.size := h; omega)))
        have HB0 := Lib.hid (HB1.out.trans (HP7.out.below HB1.out.size fun b h => by have h : b = w1.heap.size := h; omega))
        have hkb0 : ∀ b, w2.heap.size ≤ b → b < wa0.heap.size → b < w3.heap.size ∧ w3.heap[b]? = wa0.heap[b]? := fun b hb hlt => ⟨ltle hlt HCD0.out.size, HCD0.out.block b hlt fun e => by have e : b = w1.heap.size := e; omega⟩
        have hkb1 : ∀ b, w3.heap.size ≤ b → b < wa1.heap.size → b < w4.heap.size ∧ w4.heap[b]? = wa1.heap[b]? := fun b hb hlt => ⟨ltle hlt HCD1.out.size, HCD1.out.block b hlt fun e => by have e : b = w1.heap.size := e; omega⟩
        have ho0 : SOut tCommit w3 (Nw w2.heap.size w3) r0 q0 false g0 := (HS0.out.nw (k' := w2.heap.size) (w' := w3) hkb0 (Nat.le_refl _))
        have ho1 : SOut .dig w4 (Nw w3.heap.size w4) r1 q1 g0 false := (HS1.out.nw (k' := w3.heap.size) (w' := w4) hkb1 (Nat.le_refl _)).orr g0 false HK1.out
        have ho2 : SOut .byt w5 (Nw w4.heap.size w5) r2 ([.slice V2 r2.length e2] : List Value) false false := (HBY2.out.nw (k' := w4.heap.size) (w' := w5) (fun b hb hlt => ⟨ltle hlt HCD2.out.size, HCD2.out.block b hlt fun e => by have e : b = w1.heap.size := e; omega⟩) (Nat.le_refl _) |>.bad_ false)
        have ho3 : SOut .bool w6 (Nw w5.heap.size w6) [y] ([.bool ((m : Int) == 1)] : List Value) false false := (SOut.isBool w6 (Nw w5.heap.size w6) false HM.out h2)
        have ho4 : SOut .byt w7 (Nw w6.heap.size w7) r4 ([.slice V4 r4.length e4] : List Value) false false := (HBY4.out.nw (k' := w6.heap.size) (w' := w7) (fun b hb hlt => ⟨ltle hlt HCD4.out.size, HCD4.out.block b hlt fun e => by have e : b = w1.heap.size := e; omega⟩) (Nat.le_refl _) |>.bad_ false)
        have hout : Fs.Out (.cons tCommit (.cons .dig (.cons .byt (.cons .bool (.cons .byt .nil))))) w7 (Nw (w.heap.size + 1) w7) [r0, r1, r2, [y], r4] (q0 ++ (q1 ++ (([.slice V2 r2.length e2] : List Value) ++ (([.bool ((m : Int) == 1)] : List Value) ++ (([.slice V4 r4.length e4] : List Value) ++ []))))) false false := Fs.Out.stepR ho0 (Fs.Out.stepR ho1 (Fs.Out.stepR ho2 (Fs.Out.stepR ho3 (Fs.Out.stepR ho4 (Fs.Out.nil_ w7 _ _) (Chg.refl (fun k => k = w1.heap.size) _) (by omega) (by omega)) HC6.out (by omega) (by omega)) (HC5.out.trans HC6.out fun b h => .inl h) (by omega) (by omega)) ((HC4.out.trans HC5.out fun b h => .inl h).trans HC6.out fun b h => .inl h) (by omega) (by omega)) (((HC3.out.trans HC4.out fun b h => .inl h).trans HC5.out fun b h => .inl h).trans HC6.out fun b h => .inl h) (by omega) (by omega)
        have htup : SOut tFact w7 (Nw (w.heap.size + 1) w7) bs (q0 ++ (q1 ++ (([.slice V2 r2.length e2] : List Value) ++ (([.bool ((m : Int) == 1)] : List Value) ++ (([.slice V4 r4.length e4] : List Value) ++ []))))) false false := Fs.Out.tup (n := 5) hout (.inl ⟨rfl, HSP.out⟩) fun l x h => Fs.decs_len _ l x h
        have hpre : (((((([] : List Value) ++ q0) ++ q1) ++ ([.slice V2 r2.length e2] : List Value)) ++ ([.bool ((m : Int) == 1)] : List Value)) ++ ([.slice V4 r4.length e4] : List Value)) = (q0 ++ (q1 ++ (([.slice V2 r2.length e2] : List Value) ++ (([.bool ((m : Int) == 1)] : List Value) ++ (([.slice V4 r4.length e4] : List Value) ++ []))))) := by simp
        obtain ⟨C, hC⟩ : ∃ C, C = (q0 ++ (q1 ++ (([.slice V2 r2.length e2] : List Value) ++ (([.bool ((m : Int) == 1)] : List Value) ++ (([.slice V4 r4.length e4] : List Value) ++ []))))) := ⟨_, rfl⟩
        rw [← hC] at htup hpre
        have hX := HX7.out
        rw [hpre, List.append_nil] at hX
        have HX := Lib.hid hX
        have hCl : C.length = 73 := htup.1
        have HI := Lib.hid (zrFact_sized hCl)
        have HL := Lib.hid (show zrFact.length = C.length from by rw [hCl]; exact zrFact_len)
        have H1 := Lib.hid htup.2.1
        have HT := Lib.hid htup
        clear hout htup hpre hX hCl hC ho0 ho1 ho2 ho3 ho4 hkb0 hkb1
        go_wp2_with (first
          | (refine wpList_load_blk' rfl 61 _ rfl HX.out rfl Tryz.underlying61 rfl HI.out ?_)
          | (refine wpList_store_blk (cs0 := zrFact) (cs := C) rfl 61 _ _ rfl HRR.out rfl rfl HL.out HI.out H1.out ?_; intro w9 hb9 hc9; have HB9 := Lib.hid hb9; have HC9 := Lib.hid hc9; clear hb9 hc9))
        have hld := run_loadVar_mid (P := Tryz.prog) w9 w.heap.size 0 61 C _ HB9.out.range Tryz.underlying61 rfl HI.out
        refine bodyPost_ret (v := .tuple #[.agg (C).toArray, .bool true]) (by simp [results, Tryz.results18, asAddr, hld]) rfl ?_
        exact ⟨HB0.out.trans (HC9.out.below HB0.out.size fun b h => Nat.le_of_eq h.symm), C, false, rfl, HT.out.nw (w' := w9) (k' := w.heap.size) (fun b hb hlt => ⟨ltle hlt HC9.out.size, HC9.out.block b hlt fun e => by have e : b = w.heap.size := e; omega⟩) (by omega), fun h => by cases h⟩
      · skip
        have h2I : ¬ (m : Int) < 2 := by omega
        go_wp2_with (refine wpList_store_part (pre := (((([] : List Value) ++ q0) ++ q1) ++ ([.slice V2 r2.length e2] : List Value))) (old := ([.bool false] : List Value)) (vals := ([.bool ((m : Int) == 1)] : List Value)) (post := (([.slice none 0 0] : List Value) ++ ([] : List Value))) rfl 4 _ _ rfl HX5.out HPL3.out rfl (v := .bool ((m : Int) == 1)) rfl rfl (by simp only [List.length_cons, List.length_nil]) (by kernel_rfl) (fun u hu => by obtain rfl := List.mem_singleton.1 hu; rfl) ?_; intro w6 hbn hcn; have HX6 := Lib.hid hbn; have HC5 := Lib.hid hcn; have HP6 := Lib.hid (HP5.out.trans HC5.out fun b h => .inl h); have hz6 := Nat.le_trans hz5 HC5.out.size; have hcl4 : w6.cell? ⟨ba, oa + 4, none⟩ = some (.slice A_4 r4.length c_4) := (World.cell?_of_block (a := ⟨ba, oa + 4, none⟩) (HP6.out.block ba hba (fun e => by have e : ba = w1.heap.size := e; omega))).trans HC_4.out; clear hbn hcn; refine Hid.out ?_)
        refine Lib.hid ?_
        have HPL4 := Lib.hid (show (((((([] : List Value) ++ q0) ++ q1) ++ ([.slice V2 r2.length e2] : List Value)) ++ ([.bool ((m : Int) == 1)] : List Value))).length = 72 from by simp [HL0.out, HL1.out])
        have H634 := Lib.hid (show 0 + r4.length ≤ maxLen ∧ (0 + r4.length) * 1 ≤ 140737488355328 from by have := HRL.out r4 (by simp); exact ⟨by simp only [maxLen]; omega, by omega⟩)
        have HRW4 := Lib.hid (HR_4.out.chg HP6.out fun b hb h => by have h : b = w1.heap.size := h; omega)
        have hcl4 : (w6.alloc (.cells #[] 5)).cell? ⟨ba, oa + 4, none⟩ = some (.slice A_4 r4.length c_4) := (World.cell?_of_block (a := ⟨ba, oa + 4, none⟩) (((HP6.out.alloc _).block ba hba (fun e => by have e : ba = w1.heap.size := e; omega)))).trans HC_4.out
        repeat (first
          | (go_big_may; at_builtin; refine wpList_app _ rfl _ _ _ rfl Tryz.underlying22 info_u8 rfl (by decide) (Own.empty w6 5 1) rfl (HRW4.out.1.below ((Below.refl _ w6).alloc (Nat.le_refl _) _)) rfl (u8s_one _) H634.out.1 H634.out.2 ?_; intro v2 wv4 ho2 hc2 hn2 hat2; clear hn2; obtain ⟨V4, e4, hv2⟩ := ho2.form; rw [Nat.zero_add] at hv2; subst hv2; have HBY4 := Lib.hid (SOut.byt_ ho2 hc2 hat2 HRW4.out.2); have HCV4 := Lib.hid (show Chg (fun b => b = w6.heap.size) w6 wv4 from ((Chg.refl _ w6).alloc _).trans hc2 fun b h => .inl (by simp [Value.ownBlock] at h; exact h.symm)); have HXa4 := Lib.hid ((HX6.out.alloc _).chg hc2 fun h => by simp [Value.ownBlock] at h; omega); clear ho2 hc2 hat2)
          | (go_big_may; refine wpList_store_part (pre := ((((([] : List Value) ++ q0) ++ q1) ++ ([.slice V2 r2.length e2] : List Value)) ++ ([.bool ((m : Int) == 1)] : List Value))) (old := ([.slice none 0 0] : List Value)) (vals := ([.slice V4 r4.length e4] : List Value)) (post := ([] : List Value)) rfl 22 _ _ rfl HXa4.out HPL4.out rfl (v := .slice V4 r4.length e4) rfl rfl (by simp only [List.length_cons, List.length_nil]) (by kernel_rfl) (fun u hu => by obtain rfl := List.mem_singleton.1 hu; rfl) ?_; intro w7 hbn hcn; have HX7 := Lib.hid hbn; have HC6 := Lib.hid (show Chg (fun b => b = w1.heap.size) w6 w7 from (HCV4.out.new_.mono (M' := fun b => b = w1.heap.size) fun _ h => h.elim).trans hcn fun b h => .inl h); have HCD4 := Lib.hid hcn; have HP7 := Lib.hid (HP6.out.trans HC6.out fun b h => .inl h); have hz7 := Nat.le_trans hz6 HC6.out.size; clear hbn hcn; refine Hid.out ?_)
          | go_values | go_skip | go_guarded | go_step | go_upon)
        refine Lib.hid ?_
        have HRR := Lib.hid ((HR1.out.chg HP7.out (fun h => by have h : w.heap.size = w1.heap.size := h; omega)))
        have HB0 := Lib.hid (HB1.out.trans (HP7.out.below HB1.out.size fun b h => by have h : b = w1.heap.size := h; omega))
        have hkb0 : ∀ b, w2.heap.size ≤ b → b < wa0.heap.size → b < w3.heap.size ∧ w3.heap[b]? = wa0.heap[b]? := fun b hb hlt => ⟨ltle hlt HCD0.out.size, HCD0.out.block b hlt fun e => by have e : b = w1.heap.size := e; omega⟩
        have hkb1 : ∀ b, w3.heap.size ≤ b → b < wa1.heap.size → b < w4.heap.size ∧ w4.heap[b]? = wa1.heap[b]? := fun b hb hlt => ⟨ltle hlt HCD1.out.size, HCD1.out.block b hlt fun e => by have e : b = w1.heap.size := e; omega⟩
        have ho0 : SOut tCommit w3 (Nw w2.heap.size w3) r0 q0 false g0 := (HS0.out.nw (k' := w2.heap.size) (w' := w3) hkb0 (Nat.le_refl _))
        have ho1 : SOut .dig w4 (Nw w3.heap.size w4) r1 q1 g0 false := (HS1.out.nw (k' := w3.heap.size) (w' := w4) hkb1 (Nat.le_refl _)).orr g0 false HK1.out
        have ho2 : SOut .byt w5 (Nw w4.heap.size w5) r2 ([.slice V2 r2.length e2] : List Value) false false := (HBY2.out.nw (k' := w4.heap.size) (w' := w5) (fun b hb hlt => ⟨ltle hlt HCD2.out.size, HCD2.out.block b hlt fun e => by have e : b = w1.heap.size := e; omega⟩) (Nat.le_refl _) |>.bad_ false)
        have ho3 : SOut .bool w6 (Nw w5.heap.size w6) [y] ([.bool ((m : Int) == 1)] : List Value) false true := (SOut.noBool2 w6 (Nw w5.heap.size w6) false ((m : Int) == 1) HM.out h2)
        have ho4 : SOut .byt w7 (Nw w6.heap.size w7) r4 ([.slice V4 r4.length e4] : List Value) true true := (HBY4.out.nw (k' := w6.heap.size) (w' := w7) (fun b hb hlt => ⟨ltle hlt HCD4.out.size, HCD4.out.block b hlt fun e => by have e : b = w1.heap.size := e; omega⟩) (Nat.le_refl _) |>.bad_ true)
        have hout : Fs.Out (.cons tCommit (.cons .dig (.cons .byt (.cons .bool (.cons .byt .nil))))) w7 (Nw (w.heap.size + 1) w7) [r0, r1, r2, [y], r4] (q0 ++ (q1 ++ (([.slice V2 r2.length e2] : List Value) ++ (([.bool ((m : Int) == 1)] : List Value) ++ (([.slice V4 r4.length e4] : List Value) ++ []))))) false true := Fs.Out.stepR ho0 (Fs.Out.stepR ho1 (Fs.Out.stepR ho2 (Fs.Out.stepR ho3 (Fs.Out.stepR ho4 (Fs.Out.nil_ w7 _ _) (Chg.refl (fun k => k = w1.heap.size) _) (by omega) (by omega)) HC6.out (by omega) (by omega)) (HC5.out.trans HC6.out fun b h => .inl h) (by omega) (by omega)) ((HC4.out.trans HC5.out fun b h => .inl h).trans HC6.out fun b h => .inl h) (by omega) (by omega)) (((HC3.out.trans HC4.out fun b h => .inl h).trans HC5.out fun b h => .inl h).trans HC6.out fun b h => .inl h) (by omega) (by omega)
        have htup : SOut tFact w7 (Nw (w.heap.size + 1) w7) bs (q0 ++ (q1 ++ (([.slice V2 r2.length e2] : List Value) ++ (([.bool ((m : Int) == 1)] : List Value) ++ (([.slice V4 r4.length e4] : List Value) ++ []))))) false true := Fs.Out.tup (n := 5) hout (.inl ⟨rfl, HSP.out⟩) fun l x h => Fs.decs_len _ l x h
        have HNO := Lib.hid (show Sh.dec tFact bs = none from by
          rcases htup.2.2 with ⟨_, _, h, _⟩ | ⟨h, _⟩
          · cases h
          · exact h)
        clear hout htup ho0 ho1 ho2 ho3 ho4 hkb0 hkb1
        go_wp2_with (refine wpList_store_blk (cs0 := zrFact) (cs := zrFact) rfl 61 _ _ rfl HRR.out rfl rfl rfl zrFact_size zrFact_one ?_; intro w9 hb9 hc9; have HB9 := Lib.hid hb9; have HC9 := Lib.hid hc9; clear hb9 hc9)
        have hld := run_loadVar_mid (P := Tryz.prog) w9 w.heap.size 0 61 zrFact _ HB9.out.range Tryz.underlying61 rfl zrFact_size
        refine bodyPost_ret (v := .tuple #[.agg (zrFact).toArray, .bool false]) (by simp [results, Tryz.results18, asAddr, hld]) rfl ?_
        exact ⟨HB0.out.trans (HC9.out.below HB0.out.size fun b h => Nat.le_of_eq h.symm), _, true, rfl, ⟨zrFact_len, zrFact_one, .inr ⟨HNO.out, rfl⟩⟩, fun _ => rfl⟩
    · skip
      have h1I : ¬ (r3.length : Int) = 1 := by omega
      go_wp2_with (refine wpList_store_part (pre := (((([] : List Value) ++ q0) ++ q1) ++ ([.slice V2 r2.length e2] : List Value))) (old := ([.bool false] : List Value)) (vals := ([.bool false] : List Value)) (post := (([.slice none 0 0] : List Value) ++ ([] : List Value))) rfl 4 _ _ rfl HX5.out HPL3.out rfl (v := .bool false) rfl rfl (by simp only [List.length_cons, List.length_nil]) (by kernel_rfl) (fun u hu => by obtain rfl := List.mem_singleton.1 hu; rfl) ?_; intro w6 hbn hcn; have HX6 := Lib.hid hbn; have HC5 := Lib.hid hcn; have HP6 := Lib.hid (HP5.out.trans HC5.out fun b h => .inl h); have hz6 := Nat.le_trans hz5 HC5.out.size; have hcl4 : w6.cell? ⟨ba, oa + 4, none⟩ = some (.slice A_4 r4.length c_4) := (World.cell?_of_block (a := ⟨ba, oa + 4, none⟩) (HP6.out.block ba hba (fun e => by have e : ba = w1.heap.size := e; omega))).trans HC_4.out; clear hbn hcn; refine Hid.out ?_)
      refine Lib.hid ?_
      have HPL4 := Lib.hid (show (((((([] : List Value) ++ q0) ++ q1) ++ ([.slice V2 r2.length e2] : List Value)) ++ ([.bool false] : List Value))).length = 72 from by simp [HL0.out, HL1.out])
      have H634 := Lib.hid (show 0 + r4.length ≤ maxLen ∧ (0 + r4.length) * 1 ≤ 140737488355328 from by have := HRL.out r4 (by simp); exact ⟨by simp only [maxLen]; omega, by omega⟩)
      have HRW4 := Lib.hid (HR_4.out.chg HP6.out fun b hb h => by have h : b = w1.heap.size := h; omega)
      have hcl4 : (w6.alloc (.cells #[] 5)).cell? ⟨ba, oa + 4, none⟩ = some (.slice A_4 r4.length c_4) := (World.cell?_of_block (a := ⟨ba, oa + 4, none⟩) (((HP6.out.alloc _).block ba hba (fun e => by have e : ba = w1.heap.size := e; omega)))).trans HC_4.out
      repeat (first
        | (go_big_may; at_builtin; refine wpList_app _ rfl _ _ _ rfl Tryz.underlying22 info_u8 rfl (by decide) (Own.empty w6 5 1) rfl (HRW4.out.1.below ((Below.refl _ w6).alloc (Nat.le_refl _) _)) rfl (u8s_one _) H634.out.1 H634.out.2 ?_; intro v2 wv4 ho2 hc2 hn2 hat2; clear hn2; obtain ⟨V4, e4, hv2⟩ := ho2.form; rw [Nat.zero_add] at hv2; subst hv2; have HBY4 := Lib.hid (SOut.byt_ ho2 hc2 hat2 HRW4.out.2); have HCV4 := Lib.hid (show Chg (fun b => b = w6.heap.size) w6 wv4 from ((Chg.refl _ w6).alloc _).trans hc2 fun b h => .inl (by simp [Value.ownBlock] at h; exact h.symm)); have HXa4 := Lib.hid ((HX6.out.alloc _).chg hc2 fun h => by simp [Value.ownBlock] at h; omega); clear ho2 hc2 hat2)
        | (go_big_may; refine wpList_store_part (pre := ((((([] : List Value) ++ q0) ++ q1) ++ ([.slice V2 r2.length e2] : List Value)) ++ ([.bool false] : List Value))) (old := ([.slice none 0 0] : List Value)) (vals := ([.slice V4 r4.length e4] : List Value)) (post := ([] : List Value)) rfl 22 _ _ rfl HXa4.out HPL4.out rfl (v := .slice V4 r4.length e4) rfl rfl (by simp only [List.length_cons, List.length_nil]) (by kernel_rfl) (fun u hu => by obtain rfl := List.mem_singleton.1 hu; rfl) ?_; intro w7 hbn hcn; have HX7 := Lib.hid hbn; have HC6 := Lib.hid (show Chg (fun b => b = w1.heap.size) w6 w7 from (HCV4.out.new_.mono (M' := fun b => b = w1.heap.size) fun _ h => h.elim).trans hcn fun b h => .inl h); have HCD4 := Lib.hid hcn; have HP7 := Lib.hid (HP6.out.trans HC6.out fun b h => .inl h); have hz7 := Nat.le_trans hz6 HC6.out.size; clear hbn hcn; refine Hid.out ?_)
        | go_values | go_skip | go_guarded | go_step | go_upon)
      refine Lib.hid ?_
      have HRR := Lib.hid ((HR1.out.chg HP7.out (fun h => by have h : w.heap.size = w1.heap.size := h; omega)))
      have HB0 := Lib.hid (HB1.out.trans (HP7.out.below HB1.out.size fun b h => by have h : b = w1.heap.size := h; omega))
      have hkb0 : ∀ b, w2.heap.size ≤ b → b < wa0.heap.size → b < w3.heap.size ∧ w3.heap[b]? = wa0.heap[b]? := fun b hb hlt => ⟨ltle hlt HCD0.out.size, HCD0.out.block b hlt fun e => by have e : b = w1.heap.size := e; omega⟩
      have hkb1 : ∀ b, w3.heap.size ≤ b → b < wa1.heap.size → b < w4.heap.size ∧ w4.heap[b]? = wa1.heap[b]? := fun b hb hlt => ⟨ltle hlt HCD1.out.size, HCD1.out.block b hlt fun e => by have e : b = w1.heap.size := e; omega⟩
      have ho0 : SOut tCommit w3 (Nw w2.heap.size w3) r0 q0 false g0 := (HS0.out.nw (k' := w2.heap.size) (w' := w3) hkb0 (Nat.le_refl _))
      have ho1 : SOut .dig w4 (Nw w3.heap.size w4) r1 q1 g0 false := (HS1.out.nw (k' := w3.heap.size) (w' := w4) hkb1 (Nat.le_refl _)).orr g0 false HK1.out
      have ho2 : SOut .byt w5 (Nw w4.heap.size w5) r2 ([.slice V2 r2.length e2] : List Value) false false := (HBY2.out.nw (k' := w4.heap.size) (w' := w5) (fun b hb hlt => ⟨ltle hlt HCD2.out.size, HCD2.out.block b hlt fun e => by have e : b = w1.heap.size := e; omega⟩) (Nat.le_refl _) |>.bad_ false)
      have ho3 : SOut .bool w6 (Nw w5.heap.size w6) r3 ([.bool false] : List Value) false true := (SOut.noBool w6 (Nw w5.heap.size w6) false false (fun y e => h1 (by rw [e]; rfl)))
      have ho4 : SOut .byt w7 (Nw w6.heap.size w7) r4 ([.slice V4 r4.length e4] : List Value) true true := (HBY4.out.nw (k' := w6.heap.size) (w' := w7) (fun b hb hlt => ⟨ltle hlt HCD4.out.size, HCD4.out.block b hlt fun e => by have e : b = w1.heap.size := e; omega⟩) (Nat.le_refl _) |>.bad_ true)
      have hout : Fs.Out (.cons tCommit (.cons .dig (.cons .byt (.cons .bool (.cons .byt .nil))))) w7 (Nw (w.heap.size + 1) w7) [r0, r1, r2, r3, r4] (q0 ++ (q1 ++ (([.slice V2 r2.length e2] : List Value) ++ (([.bool false] : List Value) ++ (([.slice V4 r4.length e4] : List Value) ++ []))))) false true := Fs.Out.stepR ho0 (Fs.Out.stepR ho1 (Fs.Out.stepR ho2 (Fs.Out.stepR ho3 (Fs.Out.stepR ho4 (Fs.Out.nil_ w7 _ _) (Chg.refl (fun k => k = w1.heap.size) _) (by omega) (by omega)) HC6.out (by omega) (by omega)) (HC5.out.trans HC6.out fun b h => .inl h) (by omega) (by omega)) ((HC4.out.trans HC5.out fun b h => .inl h).trans HC6.out fun b h => .inl h) (by omega) (by omega)) (((HC3.out.trans HC4.out fun b h => .inl h).trans HC5.out fun b h => .inl h).trans HC6.out fun b h => .inl h) (by omega) (by omega)
      have htup : SOut tFact w7 (Nw (w.heap.size + 1) w7) bs (q0 ++ (q1 ++ (([.slice V2 r2.length e2] : List Value) ++ (([.bool false] : List Value) ++ (([.slice V4 r4.length e4] : List Value) ++ []))))) false true := Fs.Out.tup (n := 5) hout (.inl ⟨rfl, HSP.out⟩) fun l x h => Fs.decs_len _ l x h
      have HNO := Lib.hid (show Sh.dec tFact bs = none from by
        rcases htup.2.2 with ⟨_, _, h, _⟩ | ⟨h, _⟩
        · cases h
        · exact h)
      clear hout htup ho0 ho1 ho2 ho3 ho4 hkb0 hkb1
      go_wp2_with (refine wpList_store_blk (cs0 := zrFact) (cs := zrFact) rfl 61 _ _ rfl HRR.out rfl rfl rfl zrFact_size zrFact_one ?_; intro w9 hb9 hc9; have HB9 := Lib.hid hb9; have HC9 := Lib.hid hc9; clear hb9 hc9)
      have hld := run_loadVar_mid (P := Tryz.prog) w9 w.heap.size 0 61 zrFact _ HB9.out.range Tryz.underlying61 rfl zrFact_size
      refine bodyPost_ret (v := .tuple #[.agg (zrFact).toArray, .bool false]) (by simp [results, Tryz.results18, asAddr, hld]) rfl ?_
      exact ⟨HB0.out.trans (HC9.out.below HB0.out.size fun b h => Nat.le_of_eq h.symm), _, true, rfl, ⟨zrFact_len, zrFact_one, .inr ⟨HNO.out, rfl⟩⟩, fun _ => rfl⟩
  · by_cases h1 : r3.length = 1
    · obtain ⟨y, rfl⟩ := List.length_eq_one_iff.1 h1
      have hrw := (HR_3.out.chg HP5.out fun b hb h => by have h : b = w1.heap.size := h; omega)
      obtain ⟨⟨_, A', c', e, _, _, hp⟩, _⟩ := hrw
      injection e with ea eb ec
      subst ea ec
      obtain ⟨b3, o3, rfl, _, _, hc⟩ := hp (by simp)
      obtain ⟨m, hm⟩ : ∃ m, m = y.toNat := ⟨_, rfl⟩
      have hm0 : w5.cell? ⟨b3, o3, none⟩ = some (.int .u8 m) := by rw [hm]; exact hc 0 _ rfl
      have HM := Lib.hid hm
      have hm256 : m < 256 := by rw [hm]; exact y.toNat_lt
      simp only [List.length_cons, List.length_nil, Nat.zero_add] at hcl3
      clear hp hc hm
      by_cases h2 : m < 2
      · skip
        have h2I : (m : Int) < 2 := by omega
        go_wp2_with (refine wpList_store_part (pre := (((([] : List Value) ++ q0) ++ q1) ++ ([.slice V2 r2.length e2] : List Value))) (old := ([.bool false] : List Value)) (vals := ([.bool ((m : Int) == 1)] : List Value)) (post := (([.slice none 0 0] : List Value) ++ ([] : List Value))) rfl 4 _ _ rfl HX5.out HPL3.out rfl (v := .bool ((m : Int) == 1)) rfl rfl (by simp only [List.length_cons, List.length_nil]) (by kernel_rfl) (fun u hu => by obtain rfl := List.mem_singleton.1 hu; rfl) ?_; intro w6 hbn hcn; have HX6 := Lib.hid hbn; have HC5 := Lib.hid hcn; have HP6 := Lib.hid (HP5.out.trans HC5.out fun b h => .inl h); have hz6 := Nat.le_trans hz5 HC5.out.size; have hcl4 : w6.cell? ⟨ba, oa + 4, none⟩ = some (.slice A_4 r4.length c_4) := (World.cell?_of_block (a := ⟨ba, oa + 4, none⟩) (HP6.out.block ba hba (fun e => by have e : ba = w1.heap.size := e; omega))).trans HC_4.out; clear hbn hcn; refine Hid.out ?_)
        refine Lib.hid ?_
        have HPL4 := Lib.hid (show (((((([] : List Value) ++ q0) ++ q1) ++ ([.slice V2 r2.length e2] : List Value)) ++ ([.bool ((m : Int) == 1)] : List Value))).length = 72 from by simp [HL0.out, HL1.out])
        have H634 := Lib.hid (show 0 + r4.length ≤ maxLen ∧ (0 + r4.length) * 1 ≤ 140737488355328 from by have := HRL.out r4 (by simp); exact ⟨by simp only [maxLen]; omega, by omega⟩)
        have HRW4 := Lib.hid (HR_4.out.chg HP6.out fun b hb h => by have h : b = w1.heap.size := h; omega)
        have hcl4 : (w6.alloc (.cells #[] 5)).cell? ⟨ba, oa + 4, none⟩ = some (.slice A_4 r4.length c_4) := (World.cell?_of_block (a := ⟨ba, oa + 4, none⟩) (((HP6.out.alloc _).block ba hba (fun e => by have e : ba = w1.heap.size := e; omega)))).trans HC_4.out
        repeat (first
          | (go_big_may; at_builtin; refine wpList_app _ rfl _ _ _ rfl Tryz.underlying22 info_u8 rfl (by decide) (Own.empty w6 5 1) rfl (HRW4.out.1.below ((Below.refl _ w6).alloc (Nat.le_refl _) _)) rfl (u8s_one _) H634.out.1 H634.out.2 ?_; intro v2 wv4 ho2 hc2 hn2 hat2; clear hn2; obtain ⟨V4, e4, hv2⟩ := ho2.form; rw [Nat.zero_add] at hv2; subst hv2; have HBY4 := Lib.hid (SOut.byt_ ho2 hc2 hat2 HRW4.out.2); have HCV4 := Lib.hid (show Chg (fun b => b = w6.heap.size) w6 wv4 from ((Chg.refl _ w6).alloc _).trans hc2 fun b h => .inl (by simp [Value.ownBlock] at h; exact h.symm)); have HXa4 := Lib.hid ((HX6.out.alloc _).chg hc2 fun h => by simp [Value.ownBlock] at h; omega); clear ho2 hc2 hat2)
          | (go_big_may; refine wpList_store_part (pre := ((((([] : List Value) ++ q0) ++ q1) ++ ([.slice V2 r2.length e2] : List Value)) ++ ([.bool ((m : Int) == 1)] : List Value))) (old := ([.slice none 0 0] : List Value)) (vals := ([.slice V4 r4.length e4] : List Value)) (post := ([] : List Value)) rfl 22 _ _ rfl HXa4.out HPL4.out rfl (v := .slice V4 r4.length e4) rfl rfl (by simp only [List.length_cons, List.length_nil]) (by kernel_rfl) (fun u hu => by obtain rfl := List.mem_singleton.1 hu; rfl) ?_; intro w7 hbn hcn; have HX7 := Lib.hid hbn; have HC6 := Lib.hid (show Chg (fun b => b = w1.heap.size) w6 w7 from (HCV4.out.new_.mono (M' := fun b => b = w1.heap.size) fun _ h => h.elim).trans hcn fun b h => .inl h); have HCD4 := Lib.hid hcn; have HP7 := Lib.hid (HP6.out.trans HC6.out fun b h => .inl h); have hz7 := Nat.le_trans hz6 HC6.out.size; clear hbn hcn; refine Hid.out ?_)
          | go_values | go_skip | go_guarded | go_step | go_upon)
        refine Lib.hid ?_
        have HRR := Lib.hid ((HR1.out.chg HP7.out (fun h => by have h : w.heap.size = w1.heap.size := h; omega)))
        have HB0 := Lib.hid (HB1.out.trans (HP7.out.below HB1.out.size fun b h => by have h : b = w1.heap.size := h; omega))
        have hkb0 : ∀ b, w2.heap.size ≤ b → b < wa0.heap.size → b < w3.heap.size ∧ w3.heap[b]? = wa0.heap[b]? := fun b hb hlt => ⟨ltle hlt HCD0.out.size, HCD0.out.block b hlt fun e => by have e : b = w1.heap.size := e; omega⟩
        have hkb1 : ∀ b, w3.heap.size ≤ b → b < wa1.heap.size → b < w4.heap.size ∧ w4.heap[b]? = wa1.heap[b]? := fun b hb hlt => ⟨ltle hlt HCD1.out.size, HCD1.out.block b hlt fun e => by have e : b = w1.heap.size := e; omega⟩
        have ho0 : SOut tCommit w3 (Nw w2.heap.size w3) r0 q0 false g0 := (HS0.out.nw (k' := w2.heap.size) (w' := w3) hkb0 (Nat.le_refl _))
        have ho1 : SOut .dig w4 (Nw w3.heap.size w4) r1 q1 g0 true := (HS1.out.nw (k' := w3.heap.size) (w' := w4) hkb1 (Nat.le_refl _)).orr g0 true HK1.out
        have ho2 : SOut .byt w5 (Nw w4.heap.size w5) r2 ([.slice V2 r2.length e2] : List Value) true true := (HBY2.out.nw (k' := w4.heap.size) (w' := w5) (fun b hb hlt => ⟨ltle hlt HCD2.out.size, HCD2.out.block b hlt fun e => by have e : b = w1.heap.size := e; omega⟩) (Nat.le_refl _) |>.bad_ true)
        have ho3 : SOut .bool w6 (Nw w5.heap.size w6) [y] ([.bool ((m : Int) == 1)] : List Value) true true := (SOut.isBool w6 (Nw w5.heap.size w6) true HM.out h2)
        have ho4 : SOut .byt w7 (Nw w6.heap.size w7) r4 ([.slice V4 r4.length e4] : List Value) true true := (HBY4.out.nw (k' := w6.heap.size) (w' := w7) (fun b hb hlt => ⟨ltle hlt HCD4.out.size, HCD4.out.block b hlt fun e => by have e : b = w1.heap.size := e; omega⟩) (Nat.le_refl _) |>.bad_ true)
        have hout : Fs.Out (.cons tCommit (.cons .dig (.cons .byt (.cons .bool (.cons .byt .nil))))) w7 (Nw (w.heap.size + 1) w7) [r0, r1, r2, [y], r4] (q0 ++ (q1 ++ (([.slice V2 r2.length e2] : List Value) ++ (([.bool ((m : Int) == 1)] : List Value) ++ (([.slice V4 r4.length e4] : List Value) ++ []))))) false true := Fs.Out.stepR ho0 (Fs.Out.stepR ho1 (Fs.Out.stepR ho2 (Fs.Out.stepR ho3 (Fs.Out.stepR ho4 (Fs.Out.nil_ w7 _ _) (Chg.refl (fun k => k = w1.heap.size) _) (by omega) (by omega)) HC6.out (by omega) (by omega)) (HC5.out.trans HC6.out fun b h => .inl h) (by omega) (by omega)) ((HC4.out.trans HC5.out fun b h => .inl h).trans HC6.out fun b h => .inl h) (by omega) (by omega)) (((HC3.out.trans HC4.out fun b h => .inl h).trans HC5.out fun b h => .inl h).trans HC6.out fun b h => .inl h) (by omega) (by omega)
        have htup : SOut tFact w7 (Nw (w.heap.size + 1) w7) bs (q0 ++ (q1 ++ (([.slice V2 r2.length e2] : List Value) ++ (([.bool ((m : Int) == 1)] : List Value) ++ (([.slice V4 r4.length e4] : List Value) ++ []))))) false true := Fs.Out.tup (n := 5) hout (.inl ⟨rfl, HSP.out⟩) fun l x h => Fs.decs_len _ l x h
        have HNO := Lib.hid (show Sh.dec tFact bs = none from by
          rcases htup.2.2 with ⟨_, _, h, _⟩ | ⟨h, _⟩
          · cases h
          · exact h)
        clear hout htup ho0 ho1 ho2 ho3 ho4 hkb0 hkb1
        go_wp2_with (refine wpList_store_blk (cs0 := zrFact) (cs := zrFact) rfl 61 _ _ rfl HRR.out rfl rfl rfl zrFact_size zrFact_one ?_; intro w9 hb9 hc9; have HB9 := Lib.hid hb9; have HC9 := Lib.hid hc9; clear hb9 hc9)
        have hld := run_loadVar_mid (P := Tryz.prog) w9 w.heap.size 0 61 zrFact _ HB9.out.range Tryz.underlying61 rfl zrFact_size
        refine bodyPost_ret (v := .tuple #[.agg (zrFact).toArray, .bool false]) (by simp [results, Tryz.results18, asAddr, hld]) rfl ?_
        exact ⟨HB0.out.trans (HC9.out.below HB0.out.size fun b h => Nat.le_of_eq h.symm), _, true, rfl, ⟨zrFact_len, zrFact_one, .inr ⟨HNO.out, rfl⟩⟩, fun _ => rfl⟩
      · skip
        have h2I : ¬ (m : Int) < 2 := by omega
        go_wp2_with (refine wpList_store_part (pre := (((([] : List Value) ++ q0) ++ q1) ++ ([.slice V2 r2.length e2] : List Value))) (old := ([.bool false] : List Value)) (vals := ([.bool ((m : Int) == 1)] : List Value)) (post := (([.slice none 0 0] : List Value) ++ ([] : List Value))) rfl 4 _ _ rfl HX5.out HPL3.out rfl (v := .bool ((m : Int) == 1)) rfl rfl (by simp only [List.length_cons, List.length_nil]) (by kernel_rfl) (fun u hu => by obtain rfl := List.mem_singleton.1 hu; rfl) ?_; intro w6 hbn hcn; have HX6 := Lib.hid hbn; have HC5 := Lib.hid hcn; have HP6 := Lib.hid (HP5.out.trans HC5.out fun b h => .inl h); have hz6 := Nat.le_trans hz5 HC5.out.size; have hcl4 : w6.cell? ⟨ba, oa + 4, none⟩ = some (.slice A_4 r4.length c_4) := (World.cell?_of_block (a := ⟨ba, oa + 4, none⟩) (HP6.out.block ba hba (fun e => by have e : ba = w1.heap.size := e; omega))).trans HC_4.out; clear hbn hcn; refine Hid.out ?_)
        refine Lib.hid ?_
        have HPL4 := Lib.hid (show (((((([] : List Value) ++ q0) ++ q1) ++ ([.slice V2 r2.length e2] : List Value)) ++ ([.bool ((m : Int) == 1)] : List Value))).length = 72 from by simp [HL0.out, HL1.out])
        have H634 := Lib.hid (show 0 + r4.length ≤ maxLen ∧ (0 + r4.length) * 1 ≤ 140737488355328 from by have := HRL.out r4 (by simp); exact ⟨by simp only [maxLen]; omega, by omega⟩)
        have HRW4 := Lib.hid (HR_4.out.chg HP6.out fun b hb h => by have h : b = w1.heap.size := h; omega)
        have hcl4 : (w6.alloc (.cells #[] 5)).cell? ⟨ba, oa + 4, none⟩ = some (.slice A_4 r4.length c_4) := (World.cell?_of_block (a := ⟨ba, oa + 4, none⟩) (((HP6.out.alloc _).block ba hba (fun e => by have e : ba = w1.heap.size := e; omega)))).trans HC_4.out
        repeat (first
          | (go_big_may; at_builtin; refine wpList_app _ rfl _ _ _ rfl Tryz.underlying22 info_u8 rfl (by decide) (Own.empty w6 5 1) rfl (HRW4.out.1.below ((Below.refl _ w6).alloc (Nat.le_refl _) _)) rfl (u8s_one _) H634.out.1 H634.out.2 ?_; intro v2 wv4 ho2 hc2 hn2 hat2; clear hn2; obtain ⟨V4, e4, hv2⟩ := ho2.form; rw [Nat.zero_add] at hv2; subst hv2; have HBY4 := Lib.hid (SOut.byt_ ho2 hc2 hat2 HRW4.out.2); have HCV4 := Lib.hid (show Chg (fun b => b = w6.heap.size) w6 wv4 from ((Chg.refl _ w6).alloc _).trans hc2 fun b h => .inl (by simp [Value.ownBlock] at h; exact h.symm)); have HXa4 := Lib.hid ((HX6.out.alloc _).chg hc2 fun h => by simp [Value.ownBlock] at h; omega); clear ho2 hc2 hat2)
          | (go_big_may; refine wpList_store_part (pre := ((((([] : List Value) ++ q0) ++ q1) ++ ([.slice V2 r2.length e2] : List Value)) ++ ([.bool ((m : Int) == 1)] : List Value))) (old := ([.slice none 0 0] : List Value)) (vals := ([.slice V4 r4.length e4] : List Value)) (post := ([] : List Value)) rfl 22 _ _ rfl HXa4.out HPL4.out rfl (v := .slice V4 r4.length e4) rfl rfl (by simp only [List.length_cons, List.length_nil]) (by kernel_rfl) (fun u hu => by obtain rfl := List.mem_singleton.1 hu; rfl) ?_; intro w7 hbn hcn; have HX7 := Lib.hid hbn; have HC6 := Lib.hid (show Chg (fun b => b = w1.heap.size) w6 w7 from (HCV4.out.new_.mono (M' := fun b => b = w1.heap.size) fun _ h => h.elim).trans hcn fun b h => .inl h); have HCD4 := Lib.hid hcn; have HP7 := Lib.hid (HP6.out.trans HC6.out fun b h => .inl h); have hz7 := Nat.le_trans hz6 HC6.out.size; clear hbn hcn; refine Hid.out ?_)
          | go_values | go_skip | go_guarded | go_step | go_upon)
        refine Lib.hid ?_
        have HRR := Lib.hid ((HR1.out.chg HP7.out (fun h => by have h : w.heap.size = w1.heap.size := h; omega)))
        have HB0 := Lib.hid (HB1.out.trans (HP7.out.below HB1.out.size fun b h => by have h : b = w1.heap.size := h; omega))
        have hkb0 : ∀ b, w2.heap.size ≤ b → b < wa0.heap.size → b < w3.heap.size ∧ w3.heap[b]? = wa0.heap[b]? := fun b hb hlt => ⟨ltle hlt HCD0.out.size, HCD0.out.block b hlt fun e => by have e : b = w1.heap.size := e; omega⟩
        have hkb1 : ∀ b, w3.heap.size ≤ b → b < wa1.heap.size → b < w4.heap.size ∧ w4.heap[b]? = wa1.heap[b]? := fun b hb hlt => ⟨ltle hlt HCD1.out.size, HCD1.out.block b hlt fun e => by have e : b = w1.heap.size := e; omega⟩
        have ho0 : SOut tCommit w3 (Nw w2.heap.size w3) r0 q0 false g0 := (HS0.out.nw (k' := w2.heap.size) (w' := w3) hkb0 (Nat.le_refl _))
        have ho1 : SOut .dig w4 (Nw w3.heap.size w4) r1 q1 g0 true := (HS1.out.nw (k' := w3.heap.size) (w' := w4) hkb1 (Nat.le_refl _)).orr g0 true HK1.out
        have ho2 : SOut .byt w5 (Nw w4.heap.size w5) r2 ([.slice V2 r2.length e2] : List Value) true true := (HBY2.out.nw (k' := w4.heap.size) (w' := w5) (fun b hb hlt => ⟨ltle hlt HCD2.out.size, HCD2.out.block b hlt fun e => by have e : b = w1.heap.size := e; omega⟩) (Nat.le_refl _) |>.bad_ true)
        have ho3 : SOut .bool w6 (Nw w5.heap.size w6) [y] ([.bool ((m : Int) == 1)] : List Value) true true := (SOut.noBool2 w6 (Nw w5.heap.size w6) true ((m : Int) == 1) HM.out h2)
        have ho4 : SOut .byt w7 (Nw w6.heap.size w7) r4 ([.slice V4 r4.length e4] : List Value) true true := (HBY4.out.nw (k' := w6.heap.size) (w' := w7) (fun b hb hlt => ⟨ltle hlt HCD4.out.size, HCD4.out.block b hlt fun e => by have e : b = w1.heap.size := e; omega⟩) (Nat.le_refl _) |>.bad_ true)
        have hout : Fs.Out (.cons tCommit (.cons .dig (.cons .byt (.cons .bool (.cons .byt .nil))))) w7 (Nw (w.heap.size + 1) w7) [r0, r1, r2, [y], r4] (q0 ++ (q1 ++ (([.slice V2 r2.length e2] : List Value) ++ (([.bool ((m : Int) == 1)] : List Value) ++ (([.slice V4 r4.length e4] : List Value) ++ []))))) false true := Fs.Out.stepR ho0 (Fs.Out.stepR ho1 (Fs.Out.stepR ho2 (Fs.Out.stepR ho3 (Fs.Out.stepR ho4 (Fs.Out.nil_ w7 _ _) (Chg.refl (fun k => k = w1.heap.size) _) (by omega) (by omega)) HC6.out (by omega) (by omega)) (HC5.out.trans HC6.out fun b h => .inl h) (by omega) (by omega)) ((HC4.out.trans HC5.out fun b h => .inl h).trans HC6.out fun b h => .inl h) (by omega) (by omega)) (((HC3.out.trans HC4.out fun b h => .inl h).trans HC5.out fun b h => .inl h).trans HC6.out fun b h => .inl h) (by omega) (by omega)
        have htup : SOut tFact w7 (Nw (w.heap.size + 1) w7) bs (q0 ++ (q1 ++ (([.slice V2 r2.length e2] : List Value) ++ (([.bool ((m : Int) == 1)] : List Value) ++ (([.slice V4 r4.length e4] : List Value) ++ []))))) false true := Fs.Out.tup (n := 5) hout (.inl ⟨rfl, HSP.out⟩) fun l x h => Fs.decs_len _ l x h
        have HNO := Lib.hid (show Sh.dec tFact bs = none from by
          rcases htup.2.2 with ⟨_, _, h, _⟩ | ⟨h, _⟩
          · cases h
          · exact h)
        clear hout htup ho0 ho1 ho2 ho3 ho4 hkb0 hkb1
        go_wp2_with (refine wpList_store_blk (cs0 := zrFact) (cs := zrFact) rfl 61 _ _ rfl HRR.out rfl rfl rfl zrFact_size zrFact_one ?_; intro w9 hb9 hc9; have HB9 := Lib.hid hb9; have HC9 := Lib.hid hc9; clear hb9 hc9)
        have hld := run_loadVar_mid (P := Tryz.prog) w9 w.heap.size 0 61 zrFact _ HB9.out.range Tryz.underlying61 rfl zrFact_size
        refine bodyPost_ret (v := .tuple #[.agg (zrFact).toArray, .bool false]) (by simp [results, Tryz.results18, asAddr, hld]) rfl ?_
        exact ⟨HB0.out.trans (HC9.out.below HB0.out.size fun b h => Nat.le_of_eq h.symm), _, true, rfl, ⟨zrFact_len, zrFact_one, .inr ⟨HNO.out, rfl⟩⟩, fun _ => rfl⟩
    · skip
      have h1I : ¬ (r3.length : Int) = 1 := by omega
      go_wp2_with (refine wpList_store_part (pre := (((([] : List Value) ++ q0) ++ q1) ++ ([.slice V2 r2.length e2] : List Value))) (old := ([.bool false] : List Value)) (vals := ([.bool false] : List Value)) (post := (([.slice none 0 0] : List Value) ++ ([] : List Value))) rfl 4 _ _ rfl HX5.out HPL3.out rfl (v := .bool false) rfl rfl (by simp only [List.length_cons, List.length_nil]) (by kernel_rfl) (fun u hu => by obtain rfl := List.mem_singleton.1 hu; rfl) ?_; intro w6 hbn hcn; have HX6 := Lib.hid hbn; have HC5 := Lib.hid hcn; have HP6 := Lib.hid (HP5.out.trans HC5.out fun b h => .inl h); have hz6 := Nat.le_trans hz5 HC5.out.size; have hcl4 : w6.cell? ⟨ba, oa + 4, none⟩ = some (.slice A_4 r4.length c_4) := (World.cell?_of_block (a := ⟨ba, oa + 4, none⟩) (HP6.out.block ba hba (fun e => by have e : ba = w1.heap.size := e; omega))).trans HC_4.out; clear hbn hcn; refine Hid.out ?_)
      refine Lib.hid ?_
      have HPL4 := Lib.hid (show (((((([] : List Value) ++ q0) ++ q1) ++ ([.slice V2 r2.length e2] : List Value)) ++ ([.bool false] : List Value))).length = 72 from by simp [HL0.out, HL1.out])
      have H634 := Lib.hid (show 0 + r4.length ≤ maxLen ∧ (0 + r4.length) * 1 ≤ 140737488355328 from by have := HRL.out r4 (by simp); exact ⟨by simp only [maxLen]; omega, by omega⟩)
      have HRW4 := Lib.hid (HR_4.out.chg HP6.out fun b hb h => by have h : b = w1.heap.size := h; omega)
      have hcl4 : (w6.alloc (.cells #[] 5)).cell? ⟨ba, oa + 4, none⟩ = some (.slice A_4 r4.length c_4) := (World.cell?_of_block (a := ⟨ba, oa + 4, none⟩) (((HP6.out.alloc _).block ba hba (fun e => by have e : ba = w1.heap.size := e; omega)))).trans HC_4.out
      repeat (first
        | (go_big_may; at_builtin; refine wpList_app _ rfl _ _ _ rfl Tryz.underlying22 info_u8 rfl (by decide) (Own.empty w6 5 1) rfl (HRW4.out.1.below ((Below.refl _ w6).alloc (Nat.le_refl _) _)) rfl (u8s_one _) H634.out.1 H634.out.2 ?_; intro v2 wv4 ho2 hc2 hn2 hat2; clear hn2; obtain ⟨V4, e4, hv2⟩ := ho2.form; rw [Nat.zero_add] at hv2; subst hv2; have HBY4 := Lib.hid (SOut.byt_ ho2 hc2 hat2 HRW4.out.2); have HCV4 := Lib.hid (show Chg (fun b => b = w6.heap.size) w6 wv4 from ((Chg.refl _ w6).alloc _).trans hc2 fun b h => .inl (by simp [Value.ownBlock] at h; exact h.symm)); have HXa4 := Lib.hid ((HX6.out.alloc _).chg hc2 fun h => by simp [Value.ownBlock] at h; omega); clear ho2 hc2 hat2)
        | (go_big_may; refine wpList_store_part (pre := ((((([] : List Value) ++ q0) ++ q1) ++ ([.slice V2 r2.length e2] : List Value)) ++ ([.bool false] : List Value))) (old := ([.slice none 0 0] : List Value)) (vals := ([.slice V4 r4.length e4] : List Value)) (post := ([] : List Value)) rfl 22 _ _ rfl HXa4.out HPL4.out rfl (v := .slice V4 r4.length e4) rfl rfl (by simp only [List.length_cons, List.length_nil]) (by kernel_rfl) (fun u hu => by obtain rfl := List.mem_singleton.1 hu; rfl) ?_; intro w7 hbn hcn; have HX7 := Lib.hid hbn; have HC6 := Lib.hid (show Chg (fun b => b = w1.heap.size) w6 w7 from (HCV4.out.new_.mono (M' := fun b => b = w1.heap.size) fun _ h => h.elim).trans hcn fun b h => .inl h); have HCD4 := Lib.hid hcn; have HP7 := Lib.hid (HP6.out.trans HC6.out fun b h => .inl h); have hz7 := Nat.le_trans hz6 HC6.out.size; clear hbn hcn; refine Hid.out ?_)
        | go_values | go_skip | go_guarded | go_step | go_upon)
      refine Lib.hid ?_
      have HRR := Lib.hid ((HR1.out.chg HP7.out (fun h => by have h : w.heap.size = w1.heap.size := h; omega)))
      have HB0 := Lib.hid (HB1.out.trans (HP7.out.below HB1.out.size fun b h => by have h : b = w1.heap.size := h; omega))
      have hkb0 : ∀ b, w2.heap.size ≤ b → b < wa0.heap.size → b < w3.heap.size ∧ w3.heap[b]? = wa0.heap[b]? := fun b hb hlt => ⟨ltle hlt HCD0.out.size, HCD0.out.block b hlt fun e => by have e : b = w1.heap.size := e; omega⟩
      have hkb1 : ∀ b, w3.heap.size ≤ b → b < wa1.heap.size → b < w4.heap.size ∧ w4.heap[b]? = wa1.heap[b]? := fun b hb hlt => ⟨ltle hlt HCD1.out.size, HCD1.out.block b hlt fun e => by have e : b = w1.heap.size := e; omega⟩
      have ho0 : SOut tCommit w3 (Nw w2.heap.size w3) r0 q0 false g0 := (HS0.out.nw (k' := w2.heap.size) (w' := w3) hkb0 (Nat.le_refl _))
      have ho1 : SOut .dig w4 (Nw w3.heap.size w4) r1 q1 g0 true := (HS1.out.nw (k' := w3.heap.size) (w' := w4) hkb1 (Nat.le_refl _)).orr g0 true HK1.out
      have ho2 : SOut .byt w5 (Nw w4.heap.size w5) r2 ([.slice V2 r2.length e2] : List Value) true true := (HBY2.out.nw (k' := w4.heap.size) (w' := w5) (fun b hb hlt => ⟨ltle hlt HCD2.out.size, HCD2.out.block b hlt fun e => by have e : b = w1.heap.size := e; omega⟩) (Nat.le_refl _) |>.bad_ true)
      have ho3 : SOut .bool w6 (Nw w5.heap.size w6) r3 ([.bool false] : List Value) true true := (SOut.noBool w6 (Nw w5.heap.size w6) true false (fun y e => h1 (by rw [e]; rfl)))
      have ho4 : SOut .byt w7 (Nw w6.heap.size w7) r4 ([.slice V4 r4.length e4] : List Value) true true := (HBY4.out.nw (k' := w6.heap.size) (w' := w7) (fun b hb hlt => ⟨ltle hlt HCD4.out.size, HCD4.out.block b hlt fun e => by have e : b = w1.heap.size := e; omega⟩) (Nat.le_refl _) |>.bad_ true)
      have hout : Fs.Out (.cons tCommit (.cons .dig (.cons .byt (.cons .bool (.cons .byt .nil))))) w7 (Nw (w.heap.size + 1) w7) [r0, r1, r2, r3, r4] (q0 ++ (q1 ++ (([.slice V2 r2.length e2] : List Value) ++ (([.bool false] : List Value) ++ (([.slice V4 r4.length e4] : List Value) ++ []))))) false true := Fs.Out.stepR ho0 (Fs.Out.stepR ho1 (Fs.Out.stepR ho2 (Fs.Out.stepR ho3 (Fs.Out.stepR ho4 (Fs.Out.nil_ w7 _ _) (Chg.refl (fun k => k = w1.heap.size) _) (by omega) (by omega)) HC6.out (by omega) (by omega)) (HC5.out.trans HC6.out fun b h => .inl h) (by omega) (by omega)) ((HC4.out.trans HC5.out fun b h => .inl h).trans HC6.out fun b h => .inl h) (by omega) (by omega)) (((HC3.out.trans HC4.out fun b h => .inl h).trans HC5.out fun b h => .inl h).trans HC6.out fun b h => .inl h) (by omega) (by omega)
      have htup : SOut tFact w7 (Nw (w.heap.size + 1) w7) bs (q0 ++ (q1 ++ (([.slice V2 r2.length e2] : List Value) ++ (([.bool false] : List Value) ++ (([.slice V4 r4.length e4] : List Value) ++ []))))) false true := Fs.Out.tup (n := 5) hout (.inl ⟨rfl, HSP.out⟩) fun l x h => Fs.decs_len _ l x h
      have HNO := Lib.hid (show Sh.dec tFact bs = none from by
        rcases htup.2.2 with ⟨_, _, h, _⟩ | ⟨h, _⟩
        · cases h
        · exact h)
      clear hout htup ho0 ho1 ho2 ho3 ho4 hkb0 hkb1
      go_wp2_with (refine wpList_store_blk (cs0 := zrFact) (cs := zrFact) rfl 61 _ _ rfl HRR.out rfl rfl rfl zrFact_size zrFact_one ?_; intro w9 hb9 hc9; have HB9 := Lib.hid hb9; have HC9 := Lib.hid hc9; clear hb9 hc9)
      have hld := run_loadVar_mid (P := Tryz.prog) w9 w.heap.size 0 61 zrFact _ HB9.out.range Tryz.underlying61 rfl zrFact_size
      refine bodyPost_ret (v := .tuple #[.agg (zrFact).toArray, .bool false]) (by simp [results, Tryz.results18, asAddr, hld]) rfl ?_
      exact ⟨HB0.out.trans (HC9.out.below HB0.out.size fun b h => Nat.le_of_eq h.symm), _, true, rfl, ⟨zrFact_len, zrFact_one, .inr ⟨HNO.out, rfl⟩⟩, fun _ => rfl⟩
end
section
open Go.RowKit Go.Maps
attribute [-simp] Tryz.isAgg36 Tryz.typeInfo36 Tryz.isAgg61 Tryz.typeInfo61
set_option maxHeartbeats 8000000 in
set_option maxRecDepth 100000 in
theorem read_Fact (w : World) {S : Nat → Prop} {v : Value} {bs : List UInt8} {sent : Value} (h : Bs w S v bs) (hlen : bs.length ≤ 1099511627776) (hp : Pk w sent) :
    Calls Tryz.prog 5 #[.int .i64 3, v] w (ReadAns w bs) := by
  have HF := Lib.hid (ReadFact_any w h hp)
  have HB := Lib.hid h
  have HLEN := Lib.hid hlen
  obtain ⟨A, cap, rfl⟩ := h.form
  clear h hlen hp
  go_enter Tryz.func5, Tryz.ntmps5
  go_wp2_with fail
  refine HF.out.mono ?_
  rintro e w1 ⟨hb1, C, n, rfl, hCl, hC1, hn⟩
  have hCl : C.length = 73 := hCl
  have HZL := Lib.hid (show zrFact.length = C.length from by rw [hCl]; exact zrFact_len)
  have HCI := Lib.hid (zrFact_sized hCl)
  have HC1 := Lib.hid hC1
  have HN := Lib.hid hn
  have HB1 := Lib.hid hb1
  have HBB := Lib.hid (HB.out.below hb1)
  have hz1 := hb1.size
  clear hCl hC1 hn hb1 HF
  go_wp2_with (refine wpList_store_blk (cs0 := zrFact) (cs := C) rfl 61 _ _ rfl (Blk.new w1 _ _) rfl rfl HZL.out HCI.out HC1.out ?_; intro w2 hyy hcc; have HX2 := Lib.hid hyy; have HCw2 := Lib.hid (show Chg (fun _ => False) w1 w2 from ((Chg.refl _ w1).alloc _).trans hcc fun b h => .inr (Nat.le_of_eq h.symm)); clear hyy hcc)
  have hz2 := HCw2.out.size
  have HB2 := Lib.hid (HB1.out.trans (HCw2.out.below HB1.out.size fun b h => h.elim))
  refine (rReadFact_any w2 (HBB.out.chg HCw2.out fun _ _ h => h) HLEN.out).mono ?_
  rintro e w3 ⟨hb3, D, g, rfl, hs, hzz⟩
  have hDl : D.length = 73 := hs.1
  have HZD := Lib.hid (show zrFact.length = D.length from by rw [hDl]; exact zrFact_len)
  have HDI := Lib.hid (zrFact_sized hDl)
  have HD1 := Lib.hid hs.2.1
  have HS := Lib.hid hs
  have HZZ := Lib.hid hzz
  have HX3 := Lib.hid (HX2.out.below hb3 HX2.out.lt)
  have HB23 := Lib.hid hb3
  have HB3 := Lib.hid (HB2.out.trans (hb3.mono HB2.out.size))
  have hz3 := hb3.size
  clear hDl hs hzz hb3 HBB HX2
  by_cases hn0 : n = 0
  · subst hn0
    obtain ⟨hbl, x, hdx, hrx⟩ : bs.length ≤ 262144 ∧ ∃ x, Sh.dec tFact bs = some x ∧ Sh.rep w1 (fun b => w.heap.size ≤ b) tFact x C := by
      rcases HN.out with ⟨_, h⟩ | ⟨hb, ⟨x, h1, _, h3⟩ | ⟨_, h⟩⟩
      · cases h
      · exact ⟨hb, x, h1, h3⟩
      · cases h
    obtain ⟨rfl, hry⟩ : g = false ∧ Sh.rep w3 (Nw w2.heap.size w3) tFact x D := by
      rcases HS.out.2.2 with ⟨y, h1, h2, h3⟩ | ⟨h1, _⟩
      · rw [hdx] at h1; injection h1 with h1; subst h1; exact ⟨h2, h3⟩
      · rw [hdx] at h1; cases h1
    have hex : Sh.enc tFact x = bs := (Sh.enc_dec _ _ _ hdx).1
    have HEX := Lib.hid hex
    have HLX := Lib.hid (show (Sh.enc tFact x).length ≤ 1099511627776 by rw [hex]; exact HLEN.out)
    have HBL := Lib.hid hbl
    have HRX := Lib.hid (Sh.rep_below (Sh.rep_chg hrx HCw2.out fun _ _ h => h) HB23.out)
    have HRY := Lib.hid hry
    clear hdx hrx hry hex hbl HN HS HZZ
    go_simp
    go_wp2_with (refine wpList_store_blk (cs0 := zrFact) (cs := D) rfl 61 _ _ rfl (Blk.new w3 _ _) rfl rfl HZD.out HDI.out HD1.out ?_; intro w4 hyy hcc; have HY4 := Lib.hid hyy; have HCw4 := Lib.hid (show Chg (fun _ => False) w3 w4 from ((Chg.refl _ w3).alloc _).trans hcc fun b h => .inr (Nat.le_of_eq h.symm)); clear hyy hcc)
    have hx := (HX3.out.chg HCw4.out id).drew
    have hy := HY4.out.drew
    have hb := (HB3.out.trans (HCw4.out.below HB3.out.size fun b h => h.elim)).drew
    have hb4 : Below w4.heap.size w4 w4.drew := (Below.refl _ w4).drew
    have hrx := Sh.rep_below (Sh.rep_chg HRX.out HCw4.out fun _ _ h => h) hb4
    have hry := Sh.rep_below (Sh.rep_chg HRY.out HCw4.out fun _ _ h => h) hb4
    have hz4 := HCw4.out.size
    refine wp_region_segsV [([0, 2, 3, 5], [1]), ([], [4]), ([6, 7, 8, 9], [])] (by kernel_rfl) (by kernel_rfl) (by kernel_rfl) (by kernel_rfl)
      (SegV.mk (fun w' => Blk w' w1.heap.size 61 C.toArray ∧ Blk w' w3.heap.size 61 D.toArray) (fun _ _ => trivial) ⟨hx, hy⟩ ?_)
    (refine HoistK.load (by rfl) (by kernel_rfl) 61 _ rfl w1.heap.size 0 rfl C _ (fun w' hw => hw.1.range) Tryz.underlying61 rfl HCI.out ?_; simp only [Act.put, setIfInBounds_toArray, getElem_toArray, getElem_cons_zero, set_cons_succ, set_cons_zero])
    (refine HoistK.yes (by rfl) (by kernel_rfl) ⟨?_, fun w' hSw => ?_, ?_⟩; rotate_left; (· go_simp; try with_reducible rfl); simp only [Act.put, setIfInBounds_toArray, getElem_toArray, getElem_cons_succ, getElem_cons_zero, set_cons_succ, set_cons_zero])
    (refine HoistK.load (by rfl) (by kernel_rfl) 61 _ rfl w3.heap.size 0 rfl D _ (fun w' hw => hw.2.range) Tryz.underlying61 rfl HDI.out ?_; simp only [Act.put, setIfInBounds_toArray, getElem_toArray, getElem_cons_succ, getElem_cons_zero, set_cons_succ, set_cons_zero])
    (refine HoistK.yes (by rfl) (by kernel_rfl) ⟨?_, fun w' hSw => ?_, ?_⟩; rotate_left; (· go_simp; try with_reducible rfl); simp only [Act.put, setIfInBounds_toArray, getElem_toArray, getElem_cons_succ, getElem_cons_zero, set_cons_succ, set_cons_zero])
    refine HoistK.nil_ ?_
    simp only [opsAt, filterMap_cons, filterMap_nil, getElem?_toArray, getElem?_cons_succ, getElem?_cons_zero]
    refine EffS.cons_ fun _ hQ => ?_
    go_wp2_with fail
    refine (rFact_any _ hrx HLX.out).mono ?_
    rintro e w5 ⟨v5, rfl, f5⟩
    rw [HEX.out] at f5
    obtain ⟨A5, c5, rfl⟩ := f5.1.form
    have hx5 := hx.below f5.2 hx.lt
    have hy5 := hy.below f5.2 hy.lt
    have hb5 := hb.trans (f5.2.mono hb.size)
    have hry5 := Sh.rep_below hry f5.2
    have hw5 := f5.1.sub (T := fun b => w.heap.size ≤ b) fun b hb' _ => Nat.le_trans hb.size hb'.1
    clear f5
    go_wp2_with fail
    refine hQ _ _ ⟨hx5, hy5⟩ (EffS.nil_ (SegV.mk (fun w' => (Blk w' w1.heap.size 61 C.toArray ∧ Blk w' w3.heap.size 61 D.toArray) ∧ Bs w' (fun b => w.heap.size ≤ b) (.slice A5 bs.length c5) bs) (fun _ h => h.1) ⟨⟨hx5, hy5⟩, hw5⟩ ?_))
    refine HoistK.nil_ ?_
    simp only [opsAt, filterMap_cons, filterMap_nil, getElem?_toArray, getElem?_cons_succ, getElem?_cons_zero]
    refine EffS.cons_ fun _ hQ => ?_
    go_wp2_with fail
    refine (rFact_any _ hry5 HLX.out).mono ?_
    rintro e w6 ⟨v6, rfl, f6⟩
    rw [HEX.out] at f6
    obtain ⟨A6, c6, rfl⟩ := f6.1.form
    have hx6 := hx5.below f6.2 hx5.lt
    have hy6 := hy5.below f6.2 hy5.lt
    have hb6 := hb5.trans (f6.2.mono hb5.size)
    have hw56 := hw5.below f6.2
    have hw6 := f6.1.sub (T := fun b => w.heap.size ≤ b) fun b hb' _ => Nat.le_trans hb5.size hb'.1
    clear f6
    go_wp2_with fail
    refine hQ _ _ ⟨⟨hx6, hy6⟩, hw56⟩ (EffS.nil_ (SegV.mk (fun w' => ((Blk w' w1.heap.size 61 C.toArray ∧ Blk w' w3.heap.size 61 D.toArray) ∧ Bs w' (fun b => w.heap.size ≤ b) (.slice A5 bs.length c5) bs) ∧ Bs w' (fun b => w.heap.size ≤ b) (.slice A6 bs.length c6) bs) (fun _ h => h.1) ⟨⟨⟨hx6, hy6⟩, hw56⟩, hw6⟩ ?_))
    iterate 4 (refine HoistK.yes (by rfl) (by kernel_rfl) ⟨?_, fun w' hSw => ?_, ?_⟩; rotate_left; (· go_simp; try with_reducible rfl); simp only [Act.put, setIfInBounds_toArray, getElem_toArray, getElem_cons_succ, getElem_cons_zero, set_cons_succ, set_cons_zero])
    refine HoistK.nil_ ?_
    simp only [opsAt, filterMap_nil, getElem?_toArray]
    refine EffS.nil_ fun _ hQ => ?_
    go_wp2_with fail
    ((try simp only [Exit.inBlock, Exit.then]); refine bodyPost_ret (results_tmp4 rfl _ _ _) rfl ?_)
    exact ⟨hb6, _, _, 0, true, rfl, .inr ⟨HBL.out, .inl ⟨rfl, rfl, hw56, hw6⟩⟩⟩
  · obtain ⟨x, hrx, hlx⟩ : ∃ x, Sh.rep w3 (Nw w2.heap.size w3) tFact x D ∧ (Sh.enc tFact x).length ≤ 1099511627776 := by
      rcases HS.out.2.2 with ⟨x, h1, _, h3⟩ | ⟨_, h2⟩
      · exact ⟨x, h3, by rw [(Sh.enc_dec _ _ _ h1).1]; exact HLEN.out⟩
      · rw [HZZ.out h2]
        exact ⟨Sh.zel tFact, Sh.zel_rep w3 _ tFact, by rw [Sh.zel_len]; decide⟩
    have hans : (262144 < bs.length ∧ n = 4) ∨ (bs.length ≤ 262144 ∧ n = 5 ∧ g = true) := by
      rcases HN.out with h | ⟨hb, ⟨_, _, h, _⟩ | ⟨h1, h2⟩⟩
      · exact .inl h
      · exact absurd h hn0
      · refine .inr ⟨hb, h2, ?_⟩
        rcases HS.out.2.2 with ⟨y, h3, _, _⟩ | ⟨_, h3⟩
        · rw [h1] at h3; cases h3
        · exact h3
    have HANS := Lib.hid hans
    have HRX := Lib.hid hrx
    have HLX := Lib.hid hlx
    clear hans hrx hlx HN HS HZZ
    go_simp
    go_wp2_with (first
      | (refine wpList_store_blk (cs0 := zrFact) (cs := D) rfl 61 _ _ rfl (Blk.new w3 _ _) rfl rfl HZD.out HDI.out HD1.out ?_; intro w4 hyy hcc; have HY4 := Lib.hid hyy; have HCw4 := Lib.hid (show Chg (fun _ => False) w3 w4 from ((Chg.refl _ w3).alloc _).trans hcc fun b h => .inr (Nat.le_of_eq h.symm)); clear hyy hcc)
      | (refine wpList_load_blk' rfl 61 _ rfl HY4.out rfl Tryz.underlying61 rfl HDI.out ?_))
    have hb4 := HB3.out.trans (HCw4.out.below HB3.out.size fun b h => h.elim)
    refine (rFact_any _ (Sh.rep_chg HRX.out HCw4.out fun _ _ h => h) HLX.out).mono ?_
    rintro e w5 ⟨v5, rfl, f5⟩
    have hb5 := hb4.trans (f5.2.mono hb4.size)
    clear f5
    go_wp2_with fail
    ((try simp only [Exit.inBlock, Exit.then]); refine bodyPost_ret (results_tmp4 rfl _ _ _) rfl ?_)
    refine ⟨hb5, _, _, n, !g, rfl, ?_⟩
    rcases HANS.out with h | ⟨h1, h2, h3⟩
    · exact .inl h
    · exact .inr ⟨h1, .inr ⟨h2, by rw [h3]; rfl⟩⟩
end
section
open Go.RowKit Go.Maps
theorem size_allNums_any : (Tryz.prog.info? 29).map (·.size) = some 1 := by kernel_rfl
theorem sizes_allNums_any : (Tryz.prog.info? 29).map (fun i => (i.zero.map (fun z => z.cells.size), i.size)) = some (some 1, 1) := by kernel_rfl
theorem info_allNums_any : (Tryz.prog.info? 29).map (fun i => (i.zero, i.size, i.bytes)) = some (some (.slice none 0 0), 1, 24) := by kernel_rfl
set_option maxHeartbeats 8000000 in
set_option maxRecDepth 100000 in
theorem allNums_any (w : World) {X : Nat → Prop} {E g : Nat} {sent : Value} {x : List UInt8} {rows : List (List UInt8)} {bad : Bool} (h : Pt w X E g sent (x :: rows) bad) (hxl : x.length ≤ 262144) :
    Calls Tryz.prog 77 #[.pointer (some ⟨g, 0, none⟩), .func (Fn.func 78) #[] #[]] w (Took (.list (.list i64)) w X E g sent x rows bad) := by
  have hgx := h.2.2.1
  have hgw := h.lt
  have hEw := h.2.2.2.2.1
  have HGX := Lib.hid hgx
  have HX1 := Lib.hid (show ∀ b, X b → b < w.heap.size from h.2.2.2.1)
  have H := Lib.hid (next_any _ h)
  clear h hgx
  go_enter Tryz.func77, Tryz.ntmps77
  go_wp2_with fail
  refine H.out.mono ?_
  rintro e w1 ⟨v1, rfl, hb1, hc1, hp1⟩
  have HSP := Lib.hid (split_any w1 hb1 (by omega))
  have hz1 := hc1.size
  have HP1 := Lib.hid hp1
  have HC1 := Lib.hid hc1
  obtain ⟨A1, c1, rfl⟩ := hb1.form
  clear hb1 hp1 hc1 H
  go_wp2_with fail
  refine HSP.out.mono ?_
  rintro e w2 ⟨hb2, ⟨hno, rfl⟩ | ⟨v2, l, hsp, rfl, hbss⟩⟩
  · have HNO := Lib.hid hno; clear hno
    have hp2 := HP1.out.below hb2
    obtain ⟨⟨sa, rfl⟩, hgl⟩ := hp2.1
    have hgl : w2.cell? ⟨gF, 0, none⟩ = some _ := hgl
    unfold gF at hgl
    have hlx := hp2.2.2.2.1
    have hE2 := hp2.2.2.2.2.1
    have hal := (Below.refl w2.heap.size w2).alloc (Nat.le_refl _) (.cells #[.string ⟨#[97, 32, 108, 105, 115, 116]⟩, .iface 237 (.pointer (some sa))] 158)
    have HBAD := Lib.hid (bad_any _ (hp2.below hal) (Chain.fresh _ ⟨fun h => absurd (hlx _ h) (Nat.lt_irrefl _), hE2⟩))
    have HC2 := Lib.hid (HC1.out.trans (Chg.of_below hb2 fun k => k = g) fun b h => .inl h)
    clear hp2 hlx hal hE2 hb2 HP1 HC1 HSP
    go_wp2_with fail
    refine HBAD.out.mono ?_
    rintro e w3 ⟨rfl, hc3, hp3⟩
    have HP3 := Lib.hid hp3
    have HC3 := Lib.hid hc3
    clear hp3 hc3 HBAD
    go_wp2_with fail
    refine wp_loop_rounds 1 ?_
    rw [rounds_succ]
    go_wp2
    go_ret
    exact ⟨[.slice none 0 0], true, rfl, (HC2.out.alloc _).trans HC3.out fun b h => .inl h, HP3.out, SOut.noList HNO.out rfl⟩
  · have hrl : ∀ y ∈ l, y.length ≤ 262144 := fun y hy => Nat.le_trans (joinP_mem_le hsp y hy) hxl
    have hll : l.length ≤ 32768 := by
      have h1 := splitB_back hsp
      have h2 := joinP_count l
      rw [← h1, joinB_length] at hxl
      omega
    obtain ⟨A2, c2, rfl⟩ := hbss.form
    have HROWS := Lib.hid (((hbss.read fun y hy => by have := hrl y hy; omega).lt_ (T := fun b => w1.heap.size ≤ b) fun b h => h.elim id id).subs (T := fun b => b ≠ g) fun b hb _ => by have := hb.1; omega)
    have HP2 := Lib.hid (HP1.out.below hb2)
    have HC2 := Lib.hid (HC1.out.trans (Chg.of_below hb2 fun k => k = g) fun b h => .inl h)
    have HSPL := Lib.hid hsp
    have HRL := Lib.hid hrl
    have hwS : w.heap.size ≤ w2.heap.size := Nat.le_trans hz1 hb2.size
    clear hbss hsp hrl hb2 HP1 HC1 HSP hxl
    go_wp2_with fail
    go_loopw [7, 28] (fun o i wr => ∃ k : Nat, k ≤ l.length ∧ i = .int .i64 k ∧ AllI 29 1 (.list i64) w w2 X E g sent rows bad l o k wr) (fun _ i _ => l.length - (intOf i).toNat)
    case atStart => exact ⟨0, Nat.zero_le _, rfl, AllI.start HP2.out⟩
    case round =>
      obtain ⟨k, hk, rfl, hI⟩ := hrel
      by_cases hlt : k < l.length
      · obtain ⟨css, bk, hown, hob, hlo, hpt, hch⟩ := hI
        obtain ⟨ba, oa, ua, rfl, hca, hua, _, hSb⟩ := (HROWS.out.chg hch (fun b hb h => hb h)).at_ hlt
        have htk : l.take (k + 1) = l.take k ++ [l[k]] := List.take_succ_eq_append_getElem hlt
        have hyl := HRL.out l[k] (List.getElem_mem hlt)
        obtain ⟨y, hy⟩ : ∃ y, y = l[k] := ⟨_, rfl⟩
        rw [← hy] at hua htk hyl
        have HR := Lib.hid (readNums_any wr hua hyl hpt.1)
        obtain ⟨Ay, cy, rfl⟩ := hua.form
        obtain ⟨Ao, co, rfl⟩ := hown.form
        have HOWN := Lib.hid hown
        have HOB := Lib.hid hob
        have HLO := Lib.hid hlo
        have HPT := Lib.hid hpt
        have HCH := Lib.hid hch
        have HTK := Lib.hid htk
        have H63 := Lib.hid (show k + 1 ≤ maxLen ∧ (k + 1) * 24 ≤ 140737488355328 from ⟨by simp only [maxLen]; omega, by omega⟩)
        have hzr := hch.size
        clear hown hob hlo hpt hch htk hy hua hyl
        go_wp2_with fail
        refine HR.out.mono ?_
        rintro e w3 hro
        obtain ⟨y0, err, bd, rfl, h1, hb3, he, ho⟩ := hro.one (fun _ => rfl) rfl
        have HY1 := Lib.hid h1
        have H1 := Lib.hid (show ∀ u ∈ [y0], u.oneCell' = true from fun u hu => by obtain rfl := List.mem_singleton.1 hu; exact h1)
        have HI2 := Lib.hid sizes_allNums_any
        clear h1
        have HB3 := Lib.hid hb3
        have HP3 := Lib.hid (HPT.out.below hb3)
        have HO := Lib.hid (ho.or_ bk)
        clear hro hb3 ho HR
        rcases he with ⟨rfl, rfl⟩ | ⟨rfl, hcn⟩
        · skip
          have HO2 := Lib.hid (show ∀ ob, Own (w3.alloc ob) 29 1 (.slice Ao k co) k css.flatten from fun ob => own_keep HOWN.out fun b hb => (by have h1 := own_lt HOWN.out hb; have h2 := HOB.out b hb; have h3 := HB3.out.size; exact (Below.heap_alloc w3 ob b (ltle h1 h3)).trans (HB3.out.block b h1)))
          have HS2 := Lib.hid (Cs.of_new w3 29 (size := 1) 1 (cs := [y0]) rfl (by simp only [maxLen]; decide))
          go_wp2_with (first
            | (refine wpList_row1 rfl 30 29 _ rfl Tryz.underlying30 y0 rfl [y0] (cells_one HY1.out) HI2.out (by simp) (by simp) ?_)
            | (at_builtin; refine wpList_app _ rfl _ _ _ rfl Tryz.underlying30 info_allNums_any rfl (by decide) (HO2.out _) rfl HS2.out rfl H1.out H63.out.1 H63.out.2 ?_; intro v6 w6 ho6 hc6 hnil6 hat6; clear hnil6; have HO6 := Lib.hid ho6; clear ho6; have HC6 := Lib.hid hc6; clear hc6; have HAT6 := Lib.hid hat6; clear hat6))
          refine ⟨⟨k + 1, by omega, by push_cast; rfl, AllI.step hgw hwS HOWN.out HOB.out HLO.out HCH.out HB3.out (by have := HO.out; rw [Bool.or_false] at this; exact this) (Chg.refl (fun b => b = g) w3) HP3.out HTK.out HO6.out HC6.out HAT6.out⟩, ?_⟩
          simp only [intOf]; omega
        · skip
          obtain ⟨gw, rfl⟩ := hcn.form
          have HCN := Lib.hid hcn; clear hcn
          have hp4 := HP3.out
          have hlx := hp4.2.2.2.1
          have hE4 := hp4.2.2.2.2.1
          have hz4 := Nat.le_refl w3.heap.size
          have hz3 := HB3.out.size
          have hal := (Below.refl w3.heap.size w3).alloc (Nat.le_refl _) (.cells #[.string ⟨#[105, 110, 32, 97, 32, 108, 105, 115, 116]⟩, .iface 154 (.pointer (some ⟨gw, 0, none⟩))] 158)
          have hcn4 := (HCN.out.to (w' := w3) (S' := fun b => ¬ (X b ∨ (Value.slice Ao k co).ownBlock = some b) ∧ E ≤ b) (fun b hb hlt => ⟨hlt, rfl⟩) fun b hb hlt => ⟨fun h => h.elim (fun h => by have := HX1.out b h; omega) fun h => by have := own_lt HOWN.out h; omega, by omega⟩)
          have HBAD := Lib.hid (bad_any _ (hp4.below hal) (hcn4.freshMore _ ⟨fun h => absurd (hlx _ h) (Nat.lt_irrefl _), hE4⟩))
          clear hp4 hlx hal hcn4 hE4
          go_wp2_with fail
          refine HBAD.out.mono ?_
          rintro e w5 ⟨rfl, hc5, hp5⟩
          have HP5 := Lib.hid hp5
          have HC35 := Lib.hid (show Chg (fun b => b = g) w3 w5 from ((Chg.refl (fun b => b = g) w3).alloc _).trans hc5 fun b h => .inl h)
          clear hc5 hp5 HBAD
          have HO2 := Lib.hid (show ∀ ob, Own (w5.alloc ob) 29 1 (.slice Ao k co) k css.flatten from fun ob => own_keep HOWN.out fun b hb => (by have h1 := own_lt HOWN.out hb; have h2 := HOB.out b hb; have h3 := HB3.out.size; exact (Below.heap_alloc w5 ob b (ltle (ltle h1 h3) HC35.out.size)).trans ((HC35.out.block b (ltle h1 h3) (fun e => by omega)).trans (HB3.out.block b h1))))
          have HS2 := Lib.hid (Cs.of_new w5 29 (size := 1) 1 (cs := [y0]) rfl (by simp only [maxLen]; decide))
          go_wp2_with (first
            | (refine wpList_row1 rfl 30 29 _ rfl Tryz.underlying30 y0 rfl [y0] (cells_one HY1.out) HI2.out (by simp) (by simp) ?_)
            | (at_builtin; refine wpList_app _ rfl _ _ _ rfl Tryz.underlying30 info_allNums_any rfl (by decide) (HO2.out _) rfl HS2.out rfl H1.out H63.out.1 H63.out.2 ?_; intro v6 w6 ho6 hc6 hnil6 hat6; clear hnil6; have HO6 := Lib.hid ho6; clear ho6; have HC6 := Lib.hid hc6; clear hc6; have HAT6 := Lib.hid hat6; clear hat6))
          refine ⟨⟨k + 1, by omega, by push_cast; rfl, AllI.step hgw hwS HOWN.out HOB.out HLO.out HCH.out HB3.out (by have := HO.out; rw [Bool.or_true] at this; exact this) HC35.out HP5.out HTK.out HO6.out HC6.out HAT6.out⟩, ?_⟩
          simp only [intOf]; omega
      · have hk' : k = l.length := by omega
        subst hk'
        have HI := Lib.hid hI
        clear hI
        go_wp2_with fail
        go_ret
        exact HI.out.out rfl HSPL.out (fun _ => rfl) HGX.out HC2.out
end
section
open Go.RowKit Go.Maps
attribute [-simp] Tryz.isAgg36 Tryz.typeInfo36 Tryz.isAgg32 Tryz.typeInfo32
theorem info_readRecord : (Tryz.prog.info? 32).map (fun i => (i.zero.map (fun z => z.cells.size))) = some (some 3) := by kernel_rfl
theorem size_readRecord : (Tryz.prog.info? 32).map (·.size) = some 3 := by kernel_rfl
theorem places_readRecord : ((match Tryz.prog.underlying 32 with | some (.struct fields) => fields.toList.mapM (fun f => (Tryz.prog.info? f.type).map fun i => (f.offset, i.size)) | _ => none)) = some [(0, 1), (1, 1), (2, 1)] := by kernel_rfl
set_option maxHeartbeats 4000000 in
set_option maxRecDepth 100000 in
theorem readRecord_any (w : World) {S : Nat → Prop} {v sent : Value} {bs : List UInt8} (h : Bs w S v bs) (hlen : bs.length ≤ 262144) (hg : Gl w sent) :
    Calls Tryz.prog 42 #[v] w (ReadOut (.tup (.cons i64 (.cons (.list i64) (.cons (.list (.list i64)) .nil)))) w sent bs) := by
  have hal := (Below.refl w.heap.size w).alloc (Nat.le_refl _) (.cells (([.int .i64 0, .slice none 0 0, .slice none 0 0] : List Value)).toArray 32)
  have HS := Lib.hid (psplit_any _ (h.below hal) (by omega) (hg.below hal) 3 (by omega) ⟨#[97, 32, 114, 101, 99, 111, 114, 100]⟩)
  have HN := Lib.hid (Blk.new w 32 (([.int .i64 0, .slice none 0 0, .slice none 0 0] : List Value)).toArray)
  have HAL := Lib.hid hal
  obtain ⟨A, cap, rfl⟩ := h.form
  clear h hg hal
  go_enter Tryz.func42, Tryz.ntmps42
  go_wp2_with fail
  refine HS.out.mono ?_
  rintro e w1 ⟨g, rows, bad, rfl, hgw, hb1, hp, hn, hrl, hs⟩
  obtain ⟨r0, r1, r2, rfl⟩ : ∃ r0 r1 r2, rows = [r0, r1, r2] := by
    match rows, hn with
    | [r0, r1, r2], _ => exact ⟨r0, r1, r2, rfl⟩
  have HK := Lib.hid (HN.out.below hb1 (by simp))
  have hgw' : w.heap.size + 1 ≤ g := by simpa using hgw
  have hz1 : w.heap.size + 1 ≤ w1.heap.size := by simpa using hb1.size
  have HB1 := Lib.hid (HAL.out.trans (hb1.mono (by simp)))
  have HSS := Lib.hid hs
  have HRL := Lib.hid (show ∀ x ∈ [r0, r1, r2], x.length ≤ 262144 from fun x hx => Nat.le_trans (hrl x hx) hlen)
  have hE : Pt w1 (fun b => b = g) (w.heap.size + 1) g sent [r0, r1, r2] bad := by simpa using hp
  clear HS HN HAL hgw hb1 hs hn hp hrl hlen
  have hp0 := hE
  clear hE
  go_wp2_with fail
  refine (int_any _ hp0).mono ?_
  rintro e w2 ht
  obtain ⟨y0, b0, rfl, h10, hc0, hp1, ho0⟩ := ht.one (fun _ => rfl) rfl
  have hgl0 := hp0.lt
  have hz2 := Nat.le_trans hz1 hc0.size
  have HO0 := Lib.hid ho0
  have HC0 := Lib.hid hc0
  have H10 := Lib.hid h10
  clear ht ho0 hc0 h10 hp0
  go_wp2_with fail
  refine (allInt_any _ hp1 (HRL.out _ (by simp))).mono ?_
  rintro e w3 ht
  obtain ⟨y1, b1, rfl, h11, hc1, hp2, ho1⟩ := ht.one (fun _ => rfl) rfl
  have hgl1 := hp1.lt
  have hz3 := Nat.le_trans hz2 hc1.size
  have HO1 := Lib.hid ho1
  have HC1 := Lib.hid hc1
  have H11 := Lib.hid h11
  clear ht ho1 hc1 h11 hp1
  go_wp2_with fail
  refine (allNums_any _ hp2 (HRL.out _ (by simp))).mono ?_
  rintro e w4 ht
  obtain ⟨y2, b2, rfl, h12, hc2, hp3, ho2⟩ := ht.one (fun _ => rfl) rfl
  have hgl2 := hp2.lt
  have hz4 := Nat.le_trans hz3 hc2.size
  have HO2 := Lib.hid ho2
  have HC2 := Lib.hid hc2
  have H12 := Lib.hid h12
  clear ht ho2 hc2 h12 hp2
  have hbu := run_struct (P := Tryz.prog) (vs := [y0, y1, y2]) (cs := [[y0], [y1], [y2]]) info_readRecord places_readRecord ⟨cells_one H10.out, cells_one H11.out, cells_one H12.out, trivial⟩ (by simp [PlaceOk]) (by simp) #[(0, y0), (1, y1), (2, y2)] rfl
  have hone : ∀ v ∈ [[y0], [y1], [y2]].flatten, v.oneCell' = true := by
    intro v hv
    simp only [List.flatten_cons, List.flatten_nil, List.mem_append, List.mem_singleton, List.not_mem_nil, or_false] at hv
    rcases hv with rfl | rfl | rfl
    · exact H10.out
    · exact H11.out
    · exact H12.out
  have HOUT := Lib.hid (show Fs.Out (.cons i64 (.cons (.list i64) (.cons (.list (.list i64)) .nil))) w4 (Nw (w.heap.size + 1) w4) [r0, r1, r2] [[y0], [y1], [y2]].flatten bad b2 from by
    have := Fs.Out.step HO0.out (Fs.Out.step HO1.out (Fs.Out.step HO2.out (Fs.Out.nil_ w4 _ _) (Chg.refl _ _) hgl2 hz3) HC2.out hgl1 hz2) (HC1.out.trans HC2.out fun b h => .inl h) hgl0 hz1
    simpa using this)
  have HCA := Lib.hid (show Chg (fun k => k = g) w1 w4 from ((HC0.out.trans HC1.out fun b h => .inl h).trans HC2.out fun b h => .inl h))
  have hcl : [[y0], [y1], [y2]].flatten.length = 3 := by simp
  obtain ⟨C, hC⟩ : ∃ C, C = [[y0], [y1], [y2]].flatten := ⟨_, rfl⟩
  rw [← hC] at hbu hone hcl HOUT
  have HBU := Lib.hid hbu
  have HONE := Lib.hid hone
  have HCL := Lib.hid hcl
  have HI := Lib.hid (show (Tryz.prog.info? 32).map (·.size) = some C.length from by rw [hcl]; exact size_readRecord)
  have HK2 := Lib.hid (HK.out.chg HCA.out (show ¬ w.heap.size = g from by omega))
  clear hbu hone hcl hC HK HO0 HC0 H10 HO1 HC1 H11 HO2 HC2 H12
  have HP := Lib.hid hp3
  have hgX := hp3.lt
  clear hp3
  have hbu := HBU.out w4
  have HX := Lib.hid (HP.out.parts)
  go_wp2_with (first | (refine wpList_build_ rfl 32 _ rfl #[(0, y0), (1, y1), (2, y2)] (by simp [Act.eval]) _ hbu ?_) | (refine wpList_store_blk (cs0 := ([.int .i64 0, .slice none 0 0, .slice none 0 0] : List Value)) (cs := C) rfl 32 _ _ rfl (Blk.new w4 _ _) rfl rfl (by rw [HCL.out]; rfl) HI.out HONE.out ?_; intro wx hbx hcx; have HBX := Lib.hid hbx; have HCX := Lib.hid hcx; clear hbx hcx))
  obtain ⟨vy, ey, hblk, herr⟩ := HX.out
  have HCX' := Lib.hid (show Chg (fun _ => False) w4 wx from ((Chg.refl _ w4).alloc _).trans HCX.out fun b h => .inr (Nat.le_of_eq h.symm))
  have HGX := Lib.hid (hblk.chg HCX'.out id)
  have HKX := Lib.hid (HK2.out.chg HCX'.out id)
  have HE := Lib.hid herr
  clear hbu hblk herr HX HBU
  refine wp_region_hoist [0, 1, 2, 3, 4] [5] [6] (fun w' => Blk w' w4.heap.size 32 C.toArray ∧ Blk w' g 168 #[vy, ey])
    (by kernel_rfl) (by kernel_rfl) (by kernel_rfl) (by kernel_rfl) (by kernel_rfl) (by kernel_rfl) ⟨HBX.out.drew, HGX.out.drew⟩ ?_
  (refine HoistK.load (by rfl) (by kernel_rfl) 32 _ rfl w4.heap.size 0 rfl C _ (fun w' hw => hw.1.range) Tryz.underlying32 rfl HI.out ?_; simp only [Act.put, setIfInBounds_toArray, getElem_toArray, getElem_cons_zero, set_cons_succ, set_cons_zero])
  iterate 3 (refine HoistK.yes (by rfl) (by kernel_rfl) ⟨?_, fun w' hSw => ?_, ?_⟩; rotate_left; (· go_simp; try with_reducible rfl); simp only [Act.put, setIfInBounds_toArray, getElem_toArray, getElem_cons_succ, getElem_cons_zero, set_cons_succ, set_cons_zero])
  (refine HoistK.yes (by rfl) (by kernel_rfl) ⟨?_, fun w' hSw => ?_, ?_⟩; rotate_left; (· have hcc := hSw.2.cell; go_simp; try with_reducible rfl); simp only [Act.put, setIfInBounds_toArray, getElem_toArray, getElem_cons_succ, getElem_cons_zero, set_cons_succ, set_cons_zero])
  refine HoistK.nil_ ?_
  simp only [opsAt, filterMap_cons, filterMap_nil, getElem?_toArray, getElem?_cons_succ, getElem?_cons_zero]
  refine Effects.cons_ fun _ hQ1 => ?_
  go_wp2_with (refine wpList_store_blk (cs0 := ([.int .i64 0, .slice none 0 0, .slice none 0 0] : List Value)) (cs := C) rfl 32 _ _ rfl HKX.out.drew rfl rfl (by rw [HCL.out]; rfl) HI.out HONE.out ?_; intro wy hby hcy; have HBY := Lib.hid hby; have HCY := Lib.hid hcy; clear hby hcy)
  refine hQ1 _ _ ⟨HBX.out.drew.chg HCY.out (fun h => by omega), HGX.out.drew.chg HCY.out (fun h => by omega)⟩ (Effects.nil_ fun _ hQ2 => ?_)
  go_wp2
  have hld := run_loadVar_mid (P := Tryz.prog) wy w.heap.size 0 32 C _ HBY.out.range Tryz.underlying32 rfl HI.out
  refine bodyPost_ret (v := .tuple #[.agg C.toArray, ey]) (by simp [results, Tryz.results42, asAddr, hld]) rfl ?_
  have hcf : Chg (fun b => b = w.heap.size) w4 wy := ((HCX'.out.mono fun _ h => h.elim).drew).trans HCY.out fun b h => .inl h
  exact ReadOut.mk (n := 3) HOUT.out HSS.out rfl HE.out (HB1.out.trans (HCA.out.below HB1.out.size fun b h => by omega)) hcf
end
end Go.Proofs.YtjjgmkfkmckkoaaGreatDoor
