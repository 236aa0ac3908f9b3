/- Texts joined: CgN CrJ CtL CuE CfV CfZ CgQ CrK CtO CuF CfN. -/
import Derived.Test.YtjjgmkfkmckkoaaGreatDoorMb
import Derived.Test.YtjjgmkfkmckkoaaGreatDoorMd
import Derived.Test.YtjjgmkfkmckkoaaGreatDoorMc
import Derived.Test.YtjjgmkfkmckkoaaGreatDoorMa
namespace Go.Proofs.YtjjgmkfkmckkoaaGreatDoor
open List (setIfInBounds_toArray getElem_toArray getElem_cons_succ getElem_cons_zero set_cons_succ set_cons_zero filterMap_cons filterMap_nil getElem?_toArray getElem?_cons_succ getElem?_cons_zero)
section
open Go.RowKit Go.Maps
attribute [-simp] Tryz.isAgg36 Tryz.typeInfo36 Tryz.isAgg32 Tryz.typeInfo32
def zFRecord : List Value := ([.int .i64 0, .slice none 0 0, .slice none 0 0] : List Value)
set_option maxRecDepth 100000 in
theorem one_faceRecord : ∀ v ∈ zFRecord, v.oneCell' = true := by decide
set_option maxRecDepth 100000 in
theorem len_faceRecord : zFRecord.length = 3 := by decide
theorem size_faceRecord : (Tryz.prog.info? 32).map (·.size) = some zFRecord.length := by kernel_rfl
set_option maxHeartbeats 8000000 in
set_option maxRecDepth 100000 in
theorem faceRecord_any (w : World) {S : Nat → Prop} {v sent : Value} {bs : List UInt8} (h : Bs w S v bs) (hp : Pk w sent) :
    Calls Tryz.prog 41 #[v, .func (Fn.func 42) #[] #[]] w (FaceOutN tRecord zFRecord w bs) := by
  obtain ⟨A, cap, rfl⟩ := h.form
  have hal1 := (Below.refl w.heap.size w).alloc (Nat.le_refl _) (.cells (zFRecord).toArray 32)
  have hal2 := hal1.alloc (by simp) (.cells (zFRecord).toArray 32)
  have hr0 := (Blk.new w 32 (zFRecord).toArray).alloc (.cells (zFRecord).toArray 32)
  have hz0 := Blk.new (w.alloc (.cells (zFRecord).toArray 32)) 32 (zFRecord).toArray
  rw [show (w.alloc (.cells (zFRecord).toArray 32)).heap.size = w.heap.size + 1 by simp] at hz0
  by_cases hbig : 262144 < bs.length
  · obtain ⟨sb, hsb⟩ : ∃ sb, w.cell? ⟨0, 0, none⟩ = some (.iface 237 (.pointer (some sb))) := by
      obtain ⟨_, _, b, _, _, _, _, _, _, _, _, h, _⟩ := hp
      exact ⟨b, h⟩
    have hgb : ∀ {W : World}, Below w.heap.size w W → W.cell? ⟨0, 0, none⟩ = some (.iface 237 (.pointer (some sb))) := fun hb => cell_low hsb hb
    clear h
    go_enter Tryz.func41, Tryz.ntmps41
    go_wp2_with fail
    have hb := hal2.drew
    have hr : Blk _ _ _ _ := hr0.drew
    have hz : Blk _ _ _ _ := hz0.drew
    clear hal1 hal2 hz0 hsb
    refine wp_region_hoist [0, 1, 2] [3, 4, 5] [6, 7] (fun w' => Blk w' (w.heap.size + 1) 32 (zFRecord).toArray ∧ w'.cell? ⟨0, 0, none⟩ = some (.iface 237 (.pointer (some sb)))) (by kernel_rfl) (by kernel_rfl) (by kernel_rfl) (by kernel_rfl) (by kernel_rfl) (by kernel_rfl) ⟨hz, hgb hb⟩ ?_
    (refine HoistK.load (by rfl) (by kernel_rfl) 32 _ rfl (w.heap.size + 1) 0 rfl zFRecord _ (fun w' hw => hw.1.range) Tryz.underlying32 rfl size_faceRecord ?_; simp only [Act.put, setIfInBounds_toArray, getElem_toArray, getElem_cons_zero, set_cons_succ, set_cons_zero])
    (refine HoistK.yes (by rfl) (by kernel_rfl) ⟨?_, fun w' hSw => ?_, ?_⟩; rotate_left; (· have hcc := hSw.2; go_simp; try with_reducible rfl); simp only [Act.put, setIfInBounds_toArray, getElem_toArray, getElem_cons_succ, getElem_cons_zero, set_cons_succ, set_cons_zero])
    (refine HoistK.yes (by rfl) (by kernel_rfl) ⟨?_, fun w' hSw => ?_, ?_⟩; rotate_left; (· go_simp; try with_reducible rfl); simp only [Act.put, setIfInBounds_toArray, getElem_toArray, getElem_cons_succ, getElem_cons_zero, set_cons_succ, set_cons_zero])
    refine HoistK.nil_ ?_
    simp only [opsAt, filterMap_cons, filterMap_nil, getElem?_toArray, getElem?_cons_succ, getElem?_cons_zero]
    refine Effects.world (F := fun W => Below w.heap.size w W ∧ Blk W w.heap.size 32 (zFRecord).toArray ∧ Blk W (w.heap.size + 1) 32 (zFRecord).toArray) (fun W hF => ?_) ⟨hb, hr, hz⟩
    clear hb hr hz hr0
    obtain ⟨hb, hr, hz⟩ := hF
    refine Effects.cons_ fun _ hQ => ?_
    have hzl := hz.lt
    go_wp2_with fail
    have hk := Blk.new W 158 #[.string ⟨#[97, 108, 108]⟩, .iface 237 (.pointer (some sb))]
    replace hb := hb.alloc hb.size (.cells #[.string ⟨#[97, 108, 108]⟩, .iface 237 (.pointer (some sb))] 158)
    replace hr := hr.alloc (.cells #[.string ⟨#[97, 108, 108]⟩, .iface 237 (.pointer (some sb))] 158)
    replace hz := hz.alloc (.cells #[.string ⟨#[97, 108, 108]⟩, .iface 237 (.pointer (some sb))] 158)
    obtain ⟨gg, hgg⟩ : ∃ gg, gg = W.heap.size := ⟨_, rfl⟩
    have hgn : gg ≠ w.heap.size := by omega
    rw [← hgg] at hk ⊢
    have HGG := Lib.hid hgg; clear hgg
    generalize W.alloc (.cells #[.string ⟨#[97, 108, 108]⟩, .iface 237 (.pointer (some sb))] 158) = W1 at *
    refine hQ _ _ ⟨hz, hgb hb⟩ (Effects.cons_ fun _ hQ => ?_)
    go_wp2_with fail
    refine hQ _ _ ⟨hz, hgb hb⟩ (Effects.cons_ fun _ hQ => ?_)
    go_wp2_with fail
    refine (told_any (r := true) _ (hp.below hb) ⟨gg, 1, _, rfl, .more hk .last, hgb hb⟩).mono ?_
    rintro e W2 ⟨rfl, hb2⟩
    replace hb := hb.trans (hb2.mono hb.size)
    replace hr := hr.below hb2 hr.lt
    replace hz := hz.below hb2 hz.lt
    replace hk := hk.below hb2 hk.lt
    go_wp2_with fail
    refine hQ _ _ ⟨hz, hgb hb⟩ (Effects.nil_ fun _ hQ => ?_)
    refine wpList_store_blk (cs0 := zFRecord) (cs := zFRecord) rfl 32 _ _ rfl hr rfl rfl rfl size_faceRecord one_faceRecord ?_
    intro W3 hr3 hc3
    go_wp2_with fail
    replace hb := hb.trans (hc3.below hb.size fun b h => Nat.le_of_eq h.symm)
    have hld := run_loadVar_mid (P := Tryz.prog) _ w.heap.size 0 32 zFRecord _ hr3.range Tryz.underlying32 rfl size_faceRecord
    exact bodyPost_ret (v := .tuple #[.agg (zFRecord).toArray, .int .i64 4]) (by simp [results, Tryz.results41, asAddr, hld]) rfl ⟨hb, _, 4, rfl, len_faceRecord, one_faceRecord, .inl ⟨hbig, rfl, rfl⟩⟩
  · have hlen : bs.length ≤ 262144 := by omega
    have HR := Lib.hid (readRecord_any _ (h.below hal2) hlen (hp.1.below hal2))
    have HA := Lib.hid hal2
    have HR0 := Lib.hid hr0
    have HZ0 := Lib.hid hz0
    clear h hal1 hal2 hr0 hz0
    go_enter Tryz.func41, Tryz.ntmps41
    go_wp2_with fail
    refine HR.out.mono ?_
    rintro e w2 hro
    obtain ⟨C, err, bd, rfl, h1, hl, hb2, he, ho⟩ := hro.agg (fun _ => rfl)
    have hl : C.length = 3 := hl
    have HL := Lib.hid hl
    have HI := Lib.hid (show (Tryz.prog.info? 32).map (·.size) = some C.length from by rw [hl]; rw [size_faceRecord, len_faceRecord])
    have H1 := Lib.hid h1
    have HK := Lib.hid (HR0.out.below hb2 HR0.out.lt)
    have HZ := Lib.hid (HZ0.out.below hb2 HZ0.out.lt)
    have hz2 : w.heap.size + 2 ≤ w2.heap.size := by have := hb2.size; simpa using this
    have HB2 := Lib.hid (HA.out.trans (hb2.mono HA.out.size))
    have HO := Lib.hid (show SOut tRecord w2 (Nw (w.heap.size + 2) w2) bs C false bd from ho.nw (fun b _ hlt => ⟨hlt, rfl⟩) (by simp))
    have he := he.to (w' := w2) (S' := fun b => w.heap.size + 2 ≤ b) (fun b _ hlt => ⟨hlt, rfl⟩) fun b hb _ => by simpa using hb
    clear hro h1 hl hb2 ho HR HA HR0 HZ0
    rcases he with ⟨rfl, rfl⟩ | ⟨rfl, hch⟩
    · go_wp2_with (first
        | (refine wpList_store_blk (cs0 := zFRecord) (cs := C) rfl 32 _ _ rfl (Blk.new w2 _ _) rfl rfl (by rw [HL.out]; exact len_faceRecord) HI.out H1.out ?_; intro w3 hb3 hc3; have HB3 := Lib.hid hb3
           have HC3 := Lib.hid (show Chg (fun _ => False) w2 w3 from ((Chg.refl _ w2).alloc _).trans hc3 fun b h => .inr (Nat.le_of_eq h.symm)); clear hb3 hc3
           have HK3 := Lib.hid (HK.out.chg HC3.out id))
        | (refine wpList_load_blk' rfl 32 _ rfl HB3.out rfl Tryz.underlying32 rfl HI.out ?_)
        | (refine wpList_store_blk (cs0 := zFRecord) (cs := C) rfl 32 _ _ rfl HK3.out rfl rfl (by rw [HL.out]; exact len_faceRecord) HI.out H1.out ?_; intro w9 hb9 hc9; have HB9 := Lib.hid hb9; have HC9 := Lib.hid hc9; clear hb9 hc9))
      have hld := run_loadVar_mid (P := Tryz.prog) w9 w.heap.size 0 32 C _ HB9.out.range Tryz.underlying32 rfl HI.out
      refine bodyPost_ret (v := .tuple #[.agg C.toArray, .int .i64 0]) (by simp [results, Tryz.results41, asAddr, hld]) rfl ?_
      obtain ⟨o1, o2, o3⟩ := HO.out
      have hc29 : Chg (fun b => b = w.heap.size) w2 w9 := (HC3.out.mono (M' := fun b => b = w.heap.size) fun _ h => h.elim).trans HC9.out fun b h => .inl h
      refine ⟨HB2.out.trans (hc29.below HB2.out.size fun b h => Nat.le_of_eq h.symm), C, 0, rfl, o1, o2, .inr ⟨hlen, .inl ?_⟩⟩
      rcases o3 with ⟨x, e1, _, e3⟩ | ⟨_, e2⟩
      · exact ⟨x, e1, rfl, Sh.rep_to (fun b hb hlt => ⟨ltle hlt hc29.size, hc29.block b hlt fun e => by have := hb.1; omega⟩) (fun b hb hlt => hb.to (by omega) (hc29.block b hlt fun e => by have := hb.1; omega)) _ _ _ e3⟩
      · cases e2
    · obtain ⟨gw, rfl⟩ := hch.form
      have HCH := Lib.hid hch; clear hch
      have hno : Sh.dec tRecord bs = none := by
        obtain ⟨_, _, o3⟩ := HO.out
        rcases o3 with ⟨x, _, e2, _⟩ | ⟨e1, _⟩
        · cases e2
        · exact e1
      have HNO := Lib.hid hno; clear hno
      go_wp2_with (refine wpList_store_blk (cs0 := zFRecord) (cs := C) rfl 32 _ _ rfl (Blk.new w2 _ _) rfl rfl (by rw [HL.out]; exact len_faceRecord) HI.out H1.out ?_; intro w3 hb3 hc3; have HC3 := Lib.hid (show Chg (fun _ => False) w2 w3 from ((Chg.refl _ w2).alloc _).trans hc3 fun b h => .inr (Nat.le_of_eq h.symm)); clear hb3 hc3)
      have hr : Blk _ _ _ _ := (HK.out.chg HC3.out id).drew
      have hz : Blk _ _ _ _ := (HZ.out.chg HC3.out id).drew
      have hb := (HB2.out.trans (HC3.out.below HB2.out.size fun b h => h.elim)).drew
      have hch3 := HCH.out.to (w' := w3.drew) (S' := fun b => w.heap.size + 2 ≤ b) (fun b hb hlt => ⟨ltle hlt HC3.out.size, HC3.out.block b hlt id⟩) fun b hb _ => hb
      have hz3 : w.heap.size + 2 ≤ w3.drew.heap.size := Nat.le_trans hz2 HC3.out.size
      refine wp_region_hoist [0, 1] [2] [3, 4] (fun w' => Blk w' (w.heap.size + 1) 32 (zFRecord).toArray) (by kernel_rfl) (by kernel_rfl) (by kernel_rfl) (by kernel_rfl) (by kernel_rfl) (by kernel_rfl) hz ?_
      (refine HoistK.load (by rfl) (by kernel_rfl) 32 _ rfl (w.heap.size + 1) 0 rfl zFRecord _ (fun w' hw => hw.range) Tryz.underlying32 rfl size_faceRecord ?_; simp only [Act.put, setIfInBounds_toArray, getElem_toArray, getElem_cons_zero, set_cons_succ, set_cons_zero])
      (refine HoistK.yes (by rfl) (by kernel_rfl) ⟨?_, fun w' hSw => ?_, ?_⟩; rotate_left; (· go_simp; try with_reducible rfl); simp only [Act.put, setIfInBounds_toArray, getElem_toArray, getElem_cons_succ, getElem_cons_zero, set_cons_succ, set_cons_zero])
      refine HoistK.nil_ ?_
      simp only [opsAt, filterMap_cons, filterMap_nil, getElem?_toArray, getElem?_cons_succ, getElem?_cons_zero]
      refine Effects.world (F := fun W => Below w.heap.size w W ∧ Blk W w.heap.size 32 (zFRecord).toArray ∧ Blk W (w.heap.size + 1) 32 (zFRecord).toArray ∧ Chain W (fun b => w.heap.size + 2 ≤ b) sent (.iface 154 (.pointer (some ⟨gw, 0, none⟩)))) (fun W hF => ?_) ⟨hb, hr, hz, hch3⟩
      clear hb hr hz hch3 hz3
      obtain ⟨hb, hr, hz, hch⟩ := hF
      refine Effects.cons_ fun _ hQ => ?_
      go_wp2_with fail
      refine (told_any (r := false) _ (hp.below hb) (Wr.of_chain hch)).mono ?_
      rintro e W2 ⟨rfl, hb2⟩
      replace hb := hb.trans (hb2.mono hb.size)
      replace hr := hr.below hb2 hr.lt
      replace hz := hz.below hb2 hz.lt
      go_wp2_with fail
      refine hQ _ _ hz (Effects.nil_ fun _ hQ => ?_)
      refine wpList_store_blk (cs0 := zFRecord) (cs := zFRecord) rfl 32 _ _ rfl hr rfl rfl rfl size_faceRecord one_faceRecord ?_
      intro W3 hr3 hc3
      go_wp2_with fail
      replace hb := hb.trans (hc3.below hb.size fun b h => Nat.le_of_eq h.symm)
      have hld := run_loadVar_mid (P := Tryz.prog) _ w.heap.size 0 32 zFRecord _ hr3.range Tryz.underlying32 rfl size_faceRecord
      exact bodyPost_ret (v := .tuple #[.agg (zFRecord).toArray, .int .i64 5]) (by simp [results, Tryz.results41, asAddr, hld]) rfl ⟨hb, _, 5, rfl, len_faceRecord, one_faceRecord, .inr ⟨hlen, .inr ⟨HNO.out, rfl, rfl⟩⟩⟩
set_option maxHeartbeats 4000000 in
set_option maxRecDepth 100000 in
theorem ReadRecord_anyN (w : World) {S : Nat → Prop} {v sent : Value} {bs : List UInt8} (h : Bs w S v bs) (hp : Pk w sent) :
    Calls Tryz.prog 7 #[v] w (FaceOutN tRecord zFRecord w bs) := by
  have hal1 := (Below.refl w.heap.size w).alloc (Nat.le_refl _) (.cells (zFRecord).toArray 32)
  have HF := Lib.hid (faceRecord_any _ (h.below hal1) (hp.below hal1))
  have HR := Lib.hid (Blk.new w 32 (zFRecord).toArray)
  have HA := Lib.hid hal1
  obtain ⟨A, cap, rfl⟩ := h.form
  clear h hp hal1
  go_enter Tryz.func7, Tryz.ntmps7
  go_wp2_with fail
  refine HF.out.mono ?_
  rintro e w1 ⟨hb, C, n, rfl, hl, h1, hn⟩
  have hl : C.length = 3 := hl
  have HL := Lib.hid hl
  have HI := Lib.hid (show (Tryz.prog.info? 32).map (·.size) = some C.length from by rw [hl]; rw [size_faceRecord, len_faceRecord])
  have H1 := Lib.hid h1
  have hlz : (zFRecord).length = C.length := by rw [hl, len_faceRecord]
  have HLZ := Lib.hid hlz
  have HK := Lib.hid (HR.out.below hb (by simp))
  have HB := Lib.hid hb
  have HN := Lib.hid hn
  have hz1 : w.heap.size + 1 ≤ w1.heap.size := by have := hb.size; simpa using this
  clear hl h1 hlz hb hn HF HR
  go_wp2_with (refine wpList_store_blk (cs0 := zFRecord) (cs := C) rfl 32 _ _ rfl HK.out rfl rfl HLZ.out HI.out H1.out ?_; intro w9 hb9 hc9; have HB9 := Lib.hid hb9; have HC9 := Lib.hid hc9; clear hb9 hc9)
  have hld := run_loadVar_mid (P := Tryz.prog) w9 w.heap.size 0 32 C _ HB9.out.range Tryz.underlying32 rfl HI.out
  refine bodyPost_ret (v := .tuple #[.agg C.toArray, .int .i64 n]) (by simp [results, Tryz.results7, asAddr, hld]) rfl ?_
  have hbw := HA.out.trans (HB.out.mono HA.out.size)
  refine ⟨hbw.trans (HC9.out.below hbw.size fun b h => Nat.le_of_eq h.symm), C, n, rfl, HL.out, H1.out, HN.out.imp id fun ⟨q1, q2⟩ => ⟨q1, q2.imp (fun ⟨x, e1, e2, e3⟩ => ⟨x, e1, e2, ?_⟩) id⟩⟩
  exact Sh.rep_to (fun b hb hlt => ⟨ltle hlt HC9.out.size, HC9.out.block b hlt fun e => by have hb := hb.1; simp at hb; omega⟩) (fun b hb hlt => hb.to (by simp) (HC9.out.block b hlt fun e => by have hb := hb.1; simp at hb; omega)) _ _ _ e3
theorem ReadRecord_any (w : World) {S : Nat → Prop} {v sent : Value} {bs : List UInt8} (h : Bs w S v bs) (hp : Pk w sent) :
    Calls Tryz.prog 7 #[v] w (FaceOut tRecord w bs) :=
  (ReadRecord_anyN w h hp).mono fun _ _ h => h.weak
end
section
open Go.RowKit Go.Maps
set_option maxHeartbeats 8000000 in
set_option maxRecDepth 100000 in
theorem rRecord_any (w : World) {S : Nat → Prop} {x : tRecord.El} {cs : List Value} (h : tRecord.rep w S x cs) (hl : (tRecord.enc x).length ≤ 1099511627776) :
    Calls Tryz.prog 21 #[.agg cs.toArray] w fun e w' => ∃ v', e = .returned v' ∧ Fresh w w' v' (tRecord.enc x) := by
  obtain ⟨x0, x1, x2, _⟩ := x
  obtain ⟨c0, _, rfl, ⟨rfl, _⟩, c1, _, rfl, r1, c2, _, rfl, r2, rfl⟩ := h
  obtain ⟨y1, rfl⟩ : ∃ y, c1 = [y] := by obtain ⟨v, _, e, _⟩ := r1; exact ⟨v, e⟩
  obtain ⟨y2, rfl⟩ : ∃ y, c2 = [y] := by obtain ⟨v, _, e, _⟩ := r2; exact ⟨v, e⟩
  obtain ⟨A2, cap2, rfl, hlen2, _⟩ := list_at r2
  have R1 := Lib.hid r1; clear r1
  have R2 := Lib.hid r2; clear r2
  simp only [nk_t]
  obtain ⟨C, hC⟩ : ∃ C, C = [Value.int .i64 x0] ++ ([y1] ++ ([Value.slice A2 (List.length (α := ((Sh.list i64)).El) x2) cap2] ++ ([]))) := ⟨_, rfl⟩
  rw [← hC]
  have hf : ∀ w', Blk w' w.heap.size 32 C.toArray → w'.cell? ⟨w.heap.size, 0, none⟩ = some (.int .i64 x0) ∧ w'.cell? ⟨w.heap.size, 1, none⟩ = some y1 ∧ w'.cell? ⟨w.heap.size, 2, none⟩ = some (.slice A2 (List.length (α := ((Sh.list i64)).El) x2) cap2) := fun w' hb => by
    have := hb.lies [[Value.int .i64 x0], [y1], [Value.slice A2 (List.length (α := ((Sh.list i64)).El) x2) cap2]] [] (by rw [hC]; simp)
    simp only [Lies, List.length_cons, List.length_nil] at this
    obtain ⟨s0, s1, s2, _⟩ := this
    exact ⟨Lies.one s0, Lies.one s1, Lies.one s2⟩
  have HF := Lib.hid hf
  clear hf hC
  have hl' : (joinB [numB x0, (Sh.list i64).enc x1, (Sh.list (Sh.list i64)).enc x2]).length ≤ 1099511627776 := hl
  have HLL := Lib.hid hl'
  clear hl hl'
  have HE2 := Lib.hid (show ((Sh.list (Sh.list i64)).enc x2).length ≤ 1099511627776 from (by have h1 := HLL.out; rw [joinB_length] at h1; have h2 := joinP_mem (l := [numB x0, (Sh.list i64).enc x1, (Sh.list (Sh.list i64)).enc x2]) (x := (Sh.list (Sh.list i64)).enc x2) (by simp); omega))
  have hcn2 : (List.length (α := ((Sh.list i64)).El) x2) ≤ 137438953472 := by
    have h1 := HE2.out
    have h2 := joinP_count (List.map ((Sh.list i64)).enc x2)
    have h3 : ((Sh.list (Sh.list i64)).enc x2).length = 8 + (joinP (List.map ((Sh.list i64)).enc x2)).length := joinB_length _
    rw [List.length_map] at h2
    omega
  have HEJ2 := Lib.hid (show (joinB (List.map ((Sh.list i64)).enc x2)).length ≤ 140737488355328 from by
    have h1 := HE2.out
    have h3 : ((Sh.list (Sh.list i64)).enc x2).length = 8 + (joinP (List.map ((Sh.list i64)).enc x2)).length := joinB_length _
    rw [joinB_length]
    omega)
  go_enter Tryz.func21, Tryz.ntmps21
  go_wp2_with fail
  have hbe := (Below.refl w.heap.size w).alloc (Nat.le_refl _) (.cells C.toArray 32)
  have hal0 : Below (w.heap.size + 1) (w.alloc (.cells C.toArray 32)) ((w.alloc (.cells C.toArray 32)).alloc (.cells #[] 22)) := (Below.refl _ _).alloc (by simp) _
  have hMb : w.heap.size < w.heap.size + 1 := by omega
  go_loopw [3, 4] (fun o i wr => ∃ k : Nat, k ≤ (List.length (α := ((Sh.list i64)).El) x2) ∧ i = .int .i64 k ∧ Bss wr (fun b => (w.heap.size + 1) ≤ b) (fun b => (w.heap.size + 1) ≤ b) o ((List.take k x2).map ((Sh.list i64)).enc) ∧ Below w.heap.size w wr ∧ (w.heap.size + 1) ≤ wr.heap.size ∧ Blk wr w.heap.size 32 C.toArray) (fun _ i _ => (List.length (α := ((Sh.list i64)).El) x2) - (intOf i).toNat)
  case atStart => exact ⟨0, Nat.zero_le _, rfl, Bss.empty1 w _, hbe.alloc (by simp) _, by simp, ((Blk.new w _ _).alloc _)⟩
  case round =>
    obtain ⟨k, hk, rfl, hB, hbl, hMz, hbox⟩ := hrel
    by_cases hlt : k < (List.length (α := ((Sh.list i64)).El) x2)
    · obtain ⟨R, hR⟩ : ∃ R, R = (List.take k x2).map ((Sh.list i64)).enc := ⟨_, rfl⟩
      rw [← hR] at hB
      have hRl : R.length = k := by rw [hR, List.length_map, List.length_take]; omega
      have hnext : (List.take (k + 1) x2).map ((Sh.list i64)).enc = R ++ [((Sh.list i64)).enc (x2[k]'hlt)] := by rw [List.take_succ_eq_append_getElem hlt, List.map_append, ← hR]; rfl
      obtain ⟨Aa, ca, rfl⟩ := hB.form
      obtain ⟨_, _, e, _, hat⟩ := list_at (Sh.rep_below R2.out hbl)
      injection e with e1 e2 e3
      subst e1 e3
      obtain ⟨b, off, c, rfl, hca, hr, hcl, hblt, _⟩ := hat k hlt
      obtain ⟨x, hx⟩ : ∃ x, x = x2[k]'hlt := ⟨_, rfl⟩
      rw [← hx] at hr hnext
      have hsm2 : (((Sh.list i64)).enc x).length ≤ 1099511627776 := by
        have h1 := joinP_mem (List.mem_map.2 ⟨x2[k]'hlt, List.getElem_mem hlt, rfl⟩ : ((Sh.list i64)).enc (x2[k]'hlt) ∈ List.map ((Sh.list i64)).enc x2)
        have h2 := HE2.out
        have h3 : ((Sh.list (Sh.list i64)).enc x2).length = 8 + (joinP (List.map ((Sh.list i64)).enc x2)).length := joinB_length _
        rw [hx]; omega
      obtain ⟨u, rfl⟩ : ∃ u, c = [u] := by obtain ⟨v, _, e, _⟩ := hr; exact ⟨v, e⟩
      have hcell := Lies.one hca
      have hcell : wr.cell? ⟨b, off + k, none⟩ = some u := by simpa [Sh.cells] using hcell
      have HREP := Lib.hid hr
      have HSM := Lib.hid hsm2
      clear hr hsm2
      have hown : ∀ k, (Value.slice Aa R.length ca).ownBlock = some k → k < wr.heap.size := fun k hk => by obtain ⟨vs, ho, _⟩ := hB; exact own_lt ho hk
      have hbc := (HF.out wr hbox).2.2
      have HB := Lib.hid hB
      have HN := Lib.hid hnext
      have HRL := Lib.hid hRl
      have HOWN := Lib.hid hown
      have HBOX := Lib.hid hbox
      clear hB hca hcl hat hx hR hnext hRl hown hbox
      go_wp2_with fail
      refine (rNums_any _ HREP.out HSM.out).mono ?_
      rintro e w1 ⟨v1, rfl, f1⟩
      have hb1 := hbl.trans (f1.2.mono hbl.size)
      obtain ⟨y, hy⟩ : ∃ y, y = ((Sh.list i64)).enc x := ⟨_, rfl⟩
      have f1 : Fresh wr w1 v1 y := hy ▸ f1
      rw [← hy] at HN
      obtain ⟨A1, c1, rfl⟩ := f1.1.form
      obtain ⟨vs, ho, hS, hr⟩ := HB.out.below f1.2
      have hsz1 := f1.2.size
      have hal : Below w1.heap.size w1 (w1.alloc (.cells #[.slice A1 y.length c1] 22)) := (Below.refl _ w1).alloc (Nat.le_refl _) _
      have HAL := Lib.hid hal
      have HO := Lib.hid (show Own (w1.alloc (.cells #[.slice A1 y.length c1] 22)) _ _ _ _ _ from own_keep ho fun k hk => hal.block k (own_lt ho hk))
      have HS := Lib.hid hS
      have HR := Lib.hid (fun i x u h1 h2 => (hr i x u h1 h2).below hal)
      have HU := Lib.hid ((f1.1.1.below hal).sub (T := fun b => (w.heap.size + 1) ≤ b ∧ (Value.slice Aa R.length ca).ownBlock ≠ some b) fun b hb _ => ⟨Nat.le_trans hMz hb.1, fun e => by have := HOWN.out b e; omega⟩)
      have HS2 := Lib.hid (Cs.of_new w1 22 (size := 1) 1 (cs := [.slice A1 y.length c1]) rfl (by simp only [maxLen]; decide))
      have H63 := Lib.hid (show R.length + 1 ≤ maxLen ∧ (R.length + 1) * 24 ≤ 140737488355328 from by have := HRL.out; refine ⟨by simp only [maxLen]; omega, by omega⟩)
      have HF2 := Lib.hid f1.2
      clear ho hS hr hal f1 hy
      go_wp2_with (at_builtin; refine wpList_app _ rfl _ _ _ rfl Tryz.underlying121 info_row rfl (by decide) HO.out rfl HS2.out rfl (by simp [Value.oneCell']) H63.out.1 H63.out.2 ?_; intro v3 w3 ho3 hg3 hnil3 hat3; clear hnil3; have HO3 := Lib.hid ho3; clear ho3; have HG3 := Lib.hid hg3; clear hg3; have HAT3 := Lib.hid hat3; clear hat3)
      have hzz := HAL.out.size
      have hz3 := HG3.out.size
      have hpush := Bss.push HO.out HS.out HR.out HU.out HO3.out HG3.out HAT3.out (by have := hb1.size; omega)
      rw [← HN.out] at hpush
      have hbA : Below w.heap.size w (w1.alloc (.cells #[.slice A1 y.length c1] 22)) := hb1.trans (HAL.out.mono hb1.size)
      have hbw3 := HF2.out.trans (HAL.out.mono hsz1)
      refine ⟨⟨k + 1, by omega, by push_cast; rfl, hpush, hbA.trans (HG3.out.below hbA.size fun b h => by have h1 := HS.out b h; have h2 := HBOX.out.lt; omega), by omega, (HBOX.out.below hbw3 HBOX.out.lt).chg HG3.out fun h => by have h1 := HS.out _ h; have h2 := hMb; omega⟩, ?_⟩
      simp only [intOf]
      omega
    · have hk' : k = (List.length (α := ((Sh.list i64)).El) x2) := by omega
      rw [hk', List.take_length] at hB
      have hsm : ∀ x ∈ List.map ((Sh.list i64)).enc x2, x.length ≤ 140737488355328 := fun x hx => by
        have h1 := joinP_mem hx
        have h2 := HE2.out
        have h3 : ((Sh.list (Sh.list i64)).enc x2).length = 8 + (joinP (List.map ((Sh.list i64)).enc x2)).length := joinB_length _
        omega
      have hEJ2 := HEJ2.out
      obtain ⟨R2m, hR2m⟩ : ∃ R, R = List.map ((Sh.list i64)).enc x2 := ⟨_, rfl⟩
      rw [← hR2m] at hB hsm hEJ2
      have HRm2 := Lib.hid hR2m
      have HEK2 := Lib.hid hEJ2
      clear hR2m hEJ2
      have V2 := Lib.hid (((hB.read hsm).lt_ (T := fun _ => True) fun _ _ => trivial).subs (T := fun b => b < wr.heap.size) fun b hb _ => hb.2)
      obtain ⟨Ao2, co2, rfl⟩ := hB.form
      have hbc2 := (HF.out wr hbox).2.2
      clear hB hsm
      obtain ⟨w_2, hw_2⟩ : ∃ w', w' = wr := ⟨_, rfl⟩
      subst hw_2
      have HBX2 := Lib.hid hbox; have hmb2 := hbox.lt; clear hbox
      go_wp2_with fail
      clear hlt hk hk'
      have hsz := HBX2.out.lt
      have hb0 : Blk w_2.drew w.heap.size 32 C.toArray := HBX2.out.drew
      have hbw : Below w.heap.size w w_2.drew := (hbl).drew
      refine wp_region_hoist [0, 1, 2, 4, 5, 7] [3, 6, 8] [9, 10, 11] (fun w' => Blk w' w.heap.size 32 C.toArray)
        (by kernel_rfl) (by kernel_rfl) (by kernel_rfl) (by kernel_rfl) (by kernel_rfl) (by kernel_rfl) hb0 ?_
      (refine HoistK.yes (by rfl) (by kernel_rfl) ⟨?_, fun w' hSw => ?_, ?_⟩; rotate_left; (· go_simp; try with_reducible rfl); simp only [Act.put, setIfInBounds_toArray, getElem_toArray, getElem_cons_zero, set_cons_succ, set_cons_zero])
      (refine HoistK.yes (by rfl) (by kernel_rfl) ⟨?_, fun w' hSw => ?_, ?_⟩; rotate_left; (· obtain ⟨s0, s1, s2⟩ := HF.out _ hSw; go_simp; try with_reducible rfl); simp only [Act.put, setIfInBounds_toArray, getElem_toArray, getElem_cons_succ, getElem_cons_zero, set_cons_succ, set_cons_zero])
      iterate 2 (refine HoistK.yes (by rfl) (by kernel_rfl) ⟨?_, fun w' hSw => ?_, ?_⟩; rotate_left; (· go_simp; try with_reducible rfl); simp only [Act.put, setIfInBounds_toArray, getElem_toArray, getElem_cons_succ, getElem_cons_zero, set_cons_succ, set_cons_zero])
      (refine HoistK.yes (by rfl) (by kernel_rfl) ⟨?_, fun w' hSw => ?_, ?_⟩; rotate_left; (· obtain ⟨s0, s1, s2⟩ := HF.out _ hSw; go_simp; try with_reducible rfl); simp only [Act.put, setIfInBounds_toArray, getElem_toArray, getElem_cons_succ, getElem_cons_zero, set_cons_succ, set_cons_zero])
      (refine HoistK.yes (by rfl) (by kernel_rfl) ⟨?_, fun w' hSw => ?_, ?_⟩; rotate_left; (· go_simp; try with_reducible rfl); simp only [Act.put, setIfInBounds_toArray, getElem_toArray, getElem_cons_succ, getElem_cons_zero, set_cons_succ, set_cons_zero])
      refine HoistK.nil_ ?_
      simp only [opsAt, filterMap_cons, filterMap_nil, getElem?_toArray, getElem?_cons_succ, getElem?_cons_zero]
      have g0 : Got w_2.drew w_2.drew [] [] := Got.start (Below.refl _ _)
      refine Effects.cons_ fun _ hQ1 => ?_
      go_wp2_with fail
      refine (rNumI_any _ _).mono ?_
      rintro e u1 ⟨v1, rfl, f1⟩
      have g1 := g0.step f1
      have hb1 := hb0.below f1.2 hb0.lt
      clear f1
      go_wp2_with fail
      refine hQ1 _ _ hb1 (Effects.cons_ fun _ hQ2 => ?_)
      clear hQ1 hb0 g0
      go_wp2_with fail
      refine (rNums_any _ (Sh.rep_below R1.out (hbw.trans (g1.1.mono hbw.size))) (by have h1 := HLL.out; rw [joinB_length] at h1; have h2 := joinP_mem (l := [numB x0, (Sh.list i64).enc x1, (Sh.list (Sh.list i64)).enc x2]) (x := (Sh.list i64).enc x1) (by simp); omega)).mono ?_
      rintro e u2 ⟨v2, rfl, f2⟩
      have g2 := g1.step f2
      have hb2 := hb1.below f2.2 hb1.lt
      clear f2
      go_wp2_with fail
      refine hQ2 _ _ hb2 (Effects.cons_ fun _ hQ3 => ?_)
      clear hQ2 hb1 g1
      go_wp2_with fail
      refine (rJoin_any _ (V2.out.drew_.below g2.1) HEK2.out (fun b hb => ltle hb g2.1.size)).mono ?_
      rintro e u3 ⟨v3, rfl, f3⟩
      rw [HRm2.out] at f3
      have f3 : Fresh _ _ _ ((Sh.list (Sh.list i64)).enc x2) := f3
      have g3 := g2.step f3
      have hb3 := hb2.below f3.2 hb2.lt
      clear f3
      go_wp2_with fail
      refine hQ3 _ _ hb3 (Effects.nil_ fun _ hQ4 => ?_)
      clear hQ3 hb2 g2
      have hcs : ∀ v ∈ [v1, v2, v3], v.cells = #[v] := fun v hv => by
        obtain ⟨i, hi, rfl⟩ := List.getElem_of_mem hv
        obtain ⟨y, _, hr⟩ := g3.2.get i hi
        obtain ⟨A, c, e⟩ := hr.form
        have e' : [v1, v2, v3][i] = .slice A y.length c := e
        rw [e']; rfl
      refine wpList_rows rfl 3 _ rfl [v1, v2, v3] rfl (by decide) (by decide) hcs (by simp [Act.eval]) ?_
      have hr : Bsr (u3.alloc (.cells [v1, v2, v3].toArray 22)) (fun b => b < u3.heap.size + 1) (.slice (some ⟨u3.heap.size, 0, none⟩) 3 3) [numB x0, (Sh.list i64).enc x1, (Sh.list (Sh.list i64)).enc x2] := g3.row (by simp [maxLen]) 22
      have hj := rJoin_any _ hr (by have := HLL.out; omega) (fun b hb => by simpa using hb)
      have hbb : Below w.heap.size w (u3.alloc (.cells [v1, v2, v3].toArray 22)) := (hbw.trans (g3.1.mono hbw.size)).alloc (hbw.trans (g3.1.mono hbw.size)).size _
      have HJ := Lib.hid hj
      have HBB := Lib.hid hbb
      clear hj hbb hr g3 hcs
      go_wp2_with fail
      refine HJ.out.mono ?_
      rintro e uz ⟨vz, rfl, fz⟩
      go_wp2_with fail
      go_ret
      exact ⟨vz, rfl, fz.1.sub fun b hb _ => ⟨Nat.le_trans HBB.out.size hb.1, hb.2⟩, HBB.out.trans (fz.2.mono HBB.out.size)⟩
end
section
open Go.RowKit Go.Maps
attribute [-simp] Tryz.isAgg36 Tryz.typeInfo36 Tryz.isAgg32 Tryz.typeInfo32
def zrRecord : List Value := (([.int .i64 0] : List Value) ++ (([.slice none 0 0] : List Value) ++ (([.slice none 0 0] : List Value) ++ ([] : List Value))))
set_option maxRecDepth 100000 in
theorem zrRecord_one : ∀ v ∈ zrRecord, v.oneCell' = true := by decide
theorem zrRecord_len : zrRecord.length = 3 := by kernel_rfl
theorem zrRecord_size : (Tryz.prog.info? 32).map (·.size) = some zrRecord.length := by kernel_rfl
theorem zrRecord_sizes : (Tryz.prog.info? 32).map (fun i => (i.zero.map (fun z => z.cells.size), i.size)) = some (some 3, 3) := by kernel_rfl
theorem zrRecord_sized {C : List Value} (h : C.length = 3) : (Tryz.prog.info? 32).map (·.size) = some C.length := by rw [h]; kernel_rfl
set_option maxHeartbeats 8000000 in
set_option maxRecDepth 100000 in
theorem rReadRecord_any (w : World) {S : Nat → Prop} {v : Value} {bs : List UInt8} (h : Bs w S v bs) (hlen : bs.length ≤ 1099511627776) :
    Calls Tryz.prog 20 #[v] w (RefOutZ tRecord zrRecord w bs) := by
  have hal := (Below.refl w.heap.size w).alloc (Nat.le_refl _) (.cells zrRecord.toArray 32)
  have HS := Lib.hid (rsplit_any _ (h.below hal) hlen)
  have HR := Lib.hid (Blk.new w 32 zrRecord.toArray)
  have HAL := Lib.hid hal
  have HLEN := Lib.hid hlen
  obtain ⟨A, cap, rfl⟩ := h.form
  clear h hal hlen
  go_enter Tryz.func20, Tryz.ntmps20
  go_wp2_with fail
  refine HS.out.mono ?_
  rintro e w1 ⟨hb1, hsp⟩
  have HR1 := Lib.hid (HR.out.below hb1 HR.out.lt)
  have HB1 := Lib.hid (HAL.out.trans (hb1.mono HAL.out.size))
  have hz01 : w.heap.size + 1 ≤ w1.heap.size := by have := hb1.size; simpa using this
  clear HR HAL HS hb1
  rcases hsp with ⟨hno, rfl⟩ | ⟨v1, l, hsp, rfl, hbss⟩
  · have HNO := Lib.hid (show Sh.dec tRecord bs = none from by
      show (match splitB bs with | none => none | some l => Fs.decs _ l) = none
      rw [hno])
    have HRR := Lib.hid HR1.out
    have HB0 := Lib.hid HB1.out
    clear hno HR1 HB1
    go_wp2_with (refine wpList_store_blk (cs0 := zrRecord) (cs := zrRecord) rfl 32 _ _ rfl HRR.out rfl rfl rfl zrRecord_size zrRecord_one ?_; intro w9 hb9 hc9; have HB9 := Lib.hid hb9; have HC9 := Lib.hid hc9; clear hb9 hc9)
    have hld := run_loadVar_mid (P := Tryz.prog) w9 w.heap.size 0 32 zrRecord _ HB9.out.range Tryz.underlying32 rfl zrRecord_size
    refine bodyPost_ret (v := .tuple #[.agg (zrRecord).toArray, .bool false]) (by simp [results, Tryz.results20, asAddr, hld]) rfl ?_
    exact ⟨HB0.out.trans (HC9.out.below HB0.out.size fun b h => Nat.le_of_eq h.symm), _, true, rfl, ⟨zrRecord_len, zrRecord_one, .inr ⟨HNO.out, rfl⟩⟩, fun _ => rfl⟩
  by_cases hln : l.length = 3
  rotate_left
  · have HNO := Lib.hid (show Sh.dec tRecord bs = none from by
      show (match splitB bs with | none => none | some l => Fs.decs _ l) = none
      rw [hsp]
      cases hd : Fs.decs (.cons i64 (.cons (.list i64) (.cons (.list (.list i64)) .nil))) l with
      | none => exact hd
      | some x => exact absurd (Fs.decs_len _ l x hd) hln)
    have HRR := Lib.hid HR1.out
    have HB0 := Lib.hid HB1.out
    obtain ⟨A1, c1, rfl⟩ := hbss.form
    have hlI : ¬ (l.length : Int) = 3 := by omega
    clear hsp HR1 HB1 hbss
    go_wp2_with (refine wpList_store_blk (cs0 := zrRecord) (cs := zrRecord) rfl 32 _ _ rfl HRR.out rfl rfl rfl zrRecord_size zrRecord_one ?_; intro w9 hb9 hc9; have HB9 := Lib.hid hb9; have HC9 := Lib.hid hc9; clear hb9 hc9)
    have hld := run_loadVar_mid (P := Tryz.prog) w9 w.heap.size 0 32 zrRecord _ HB9.out.range Tryz.underlying32 rfl zrRecord_size
    refine bodyPost_ret (v := .tuple #[.agg (zrRecord).toArray, .bool false]) (by simp [results, Tryz.results20, asAddr, hld]) rfl ?_
    exact ⟨HB0.out.trans (HC9.out.below HB0.out.size fun b h => Nat.le_of_eq h.symm), _, true, rfl, ⟨zrRecord_len, zrRecord_one, .inr ⟨HNO.out, rfl⟩⟩, fun _ => rfl⟩
  have HSP := Lib.hid hsp
  have hrl : ∀ y ∈ l, y.length ≤ 1099511627776 := fun y hy => Nat.le_trans (joinP_mem_le hsp y hy) HLEN.out
  obtain ⟨A1, c1, rfl⟩ := hbss.form
  have hall := Bsr.all (hbss.read fun y hy => by have := hrl y hy; omega) (by omega)
  obtain ⟨r0, r1, r2, rfl⟩ : ∃ r0 r1 r2, l = [r0, r1, r2] := by
    match l, hln with
    | [r0, r1, r2], _ => exact ⟨r0, r1, r2, rfl⟩
  have HRL := Lib.hid hrl
  obtain ⟨ba, oa, rfl, _, hba, hall⟩ := hall
  obtain ⟨A_0, c_0, hc_0, hr_0⟩ := hall 0 r0 rfl
  have HC_0 := Lib.hid hc_0
  have HR_0 := Lib.hid (hr_0.sub (T := fun b => b < w1.heap.size) fun _ _ h => h)
  obtain ⟨A_1, c_1, hc_1, hr_1⟩ := hall 1 r1 rfl
  have HC_1 := Lib.hid hc_1
  have HR_1 := Lib.hid (hr_1.sub (T := fun b => b < w1.heap.size) fun _ _ h => h)
  obtain ⟨A_2, c_2, hc_2, hr_2⟩ := hall 2 r2 rfl
  have HC_2 := Lib.hid hc_2
  have HR_2 := Lib.hid (hr_2.sub (T := fun b => b < w1.heap.size) fun _ _ h => h)
  clear hall hbss hsp hrl hln hc_0 hr_0 hc_1 hr_1 hc_2 hr_2
  go_wp2_with (refine wpList_store_blk (cs0 := zrRecord) (cs := zrRecord) rfl 32 _ _ rfl (Blk.new w1 _ _) rfl rfl rfl zrRecord_size zrRecord_one ?_; intro w2 hb2 hc2; have HX2 := Lib.hid (show Blk w2 w1.heap.size 32 (([] : List Value) ++ (([.int .i64 0] : List Value) ++ (([.slice none 0 0] : List Value) ++ (([.slice none 0 0] : List Value) ++ ([] : List Value))))).toArray from hb2); have HP2 := Lib.hid (show Chg (fun b => b = w1.heap.size) w1 w2 from ((Chg.refl _ w1).alloc _).trans hc2 fun b h => .inl h); have hz2 : w1.heap.size + 1 ≤ w2.heap.size := (by have := hb2.lt; omega); have hcl0 : w2.cell? ⟨ba, oa, none⟩ = some (.slice A_0 r0.length c_0) := (World.cell?_of_block (a := ⟨ba, oa, none⟩) (HP2.out.block ba hba (fun e => by have e : ba = w1.heap.size := e; omega))).trans HC_0.out; clear hb2 hc2)
  refine (rnumI_out _ (HR_0.out.chg HP2.out fun b hb h => by have h : b = w1.heap.size := h; omega)).mono ?_
  rintro e wq ⟨hw, m0, g0, rfl, hm0, hsI, hsU⟩
  obtain rfl := hw.symm
  have HS0 := Lib.hid hsI
  clear hsI hsU hcl0
  have HPL0 := Lib.hid (show (([] : List Value)).length = 0 from by simp)
  go_simp
  repeat (first
    | (go_big_may; refine wpList_store_part (pre := ([] : List Value)) (old := ([.int .i64 0] : List Value)) (vals := ([.int .i64 (wrap64 (m0 : Int))] : List Value)) (post := (([.slice none 0 0] : List Value) ++ (([.slice none 0 0] : List Value) ++ ([] : List Value)))) rfl 3 _ _ rfl HX2.out HPL0.out rfl (v := .int .i64 (wrap64 (m0 : Int))) rfl rfl (by simp only [List.length_cons, List.length_nil]) (by kernel_rfl) (fun u hu => by obtain rfl := List.mem_singleton.1 hu; rfl) ?_; intro w3 hbn hcn; have HX3 := Lib.hid hbn; have HC2 := Lib.hid hcn; have HP3 := Lib.hid (HP2.out.trans HC2.out fun b h => .inl h); have hz3 := Nat.le_trans hz2 HC2.out.size; have hcl1 : w3.cell? ⟨ba, oa + 1, none⟩ = some (.slice A_1 r1.length c_1) := (World.cell?_of_block (a := ⟨ba, oa + 1, none⟩) (HP3.out.block ba hba (fun e => by have e : ba = w1.heap.size := e; omega))).trans HC_1.out; clear hbn hcn)
    | go_values | go_skip | go_guarded | go_step | go_upon)
  refine (rnums_any _ (HR_1.out.chg HP3.out fun b hb h => by have h : b = w1.heap.size := h; omega) (HRL.out _ (by simp))).mono ?_
  rintro e wa1 ⟨hba1, q1, g1, rfl, hs1⟩
  obtain ⟨y1, rfl⟩ : ∃ y1, q1 = [y1] := List.length_eq_one_iff.1 hs1.1
  have hy1 : y1.oneCell' = true := hs1.2.1 y1 (by simp)
  have HY1 := Lib.hid hy1
  have HXa1 := Lib.hid (HX3.out.below hba1 HX3.out.lt)
  have HBA1 := Lib.hid hba1
  have HS1 := Lib.hid hs1
  have hza1 := hba1.size
  clear hba1 hs1 hy1 hcl1
  have HPL1 := Lib.hid (show ((([] : List Value) ++ ([.int .i64 (wrap64 (m0 : Int))] : List Value))).length = 1 from by simp)
  go_simp
  repeat (first
    | ((with_reducible (show wpList _ _ _ (⟨_, .move _, _, _, _, some _⟩ :: _) _ _)); refine wpList_and g0 g1 _ _ _ rfl rfl rfl (by cases g0 <;> rfl) rfl (fun _ => rfl) (fun _ => rfl) ?_; intro vA1 k1 hk1; have HK1 := Lib.hid hk1; clear hk1)
    | (go_big_may; refine wpList_store_part (pre := (([] : List Value) ++ ([.int .i64 (wrap64 (m0 : Int))] : List Value))) (old := ([.slice none 0 0] : List Value)) (vals := ([y1] : List Value)) (post := (([.slice none 0 0] : List Value) ++ ([] : List Value))) rfl 29 _ _ rfl HXa1.out HPL1.out rfl (v := y1) rfl (cells_one HY1.out) (by simp only [List.length_cons, List.length_nil]) (by kernel_rfl) (fun u hu => by obtain rfl := List.mem_singleton.1 hu; exact HY1.out) ?_; intro w4 hbn hcn; have HX4 := Lib.hid hbn; have HC3 := Lib.hid (show Chg (fun b => b = w1.heap.size) w3 w4 from (Chg.of_below HBA1.out fun b => b = w1.heap.size).trans hcn fun b h => .inl h); have HCD1 := Lib.hid hcn; have HP4 := Lib.hid (HP3.out.trans HC3.out fun b h => .inl h); have hz4 := Nat.le_trans hz3 HC3.out.size; have hcl2 : w4.cell? ⟨ba, oa + 2, none⟩ = some (.slice A_2 r2.length c_2) := (World.cell?_of_block (a := ⟨ba, oa + 2, none⟩) (HP4.out.block ba hba (fun e => by have e : ba = w1.heap.size := e; omega))).trans HC_2.out; clear hbn hcn)
    | go_values | go_skip | go_guarded | go_step | go_upon)
  refine (rsplit_one _ (HR_2.out.chg HP4.out fun b hb h => by have h : b = w1.heap.size := h; omega) (HRL.out _ (by simp))).mono ?_
  rintro e ws2 ⟨hbs2, As2, cs2, l2, g2, rfl, hbss2, hll2, hrl2, hsp2⟩
  have HXS2 := Lib.hid (HX4.out.below hbs2 HX4.out.lt)
  have HPS2 := Lib.hid (HP4.out.trans (Chg.of_below hbs2 fun b => b = w1.heap.size) fun b h => .inl h)
  have hzs2 := Nat.le_trans hz4 hbs2.size
  have hzt2 := hbs2.size
  have HROW2 := Lib.hid ((hbss2.read fun y hy => by have := hrl2 y hy; omega).subs (T := fun b => b ≠ w1.heap.size) fun b hb _ => by have hb : w4.heap.size ≤ b := hb.elim id id; omega)
  have HSPL2 := Lib.hid hsp2
  have HRLL2 := Lib.hid hrl2
  have HBS2 := Lib.hid hbs2
  have HPL2 := Lib.hid (show (((([] : List Value) ++ ([.int .i64 (wrap64 (m0 : Int))] : List Value)) ++ ([y1] : List Value))).length = 2 from by simp)
  clear hbs2 hbss2 hrl2 hsp2 hcl2
  go_simp
  repeat (first
    | ((with_reducible (show wpList _ _ _ (⟨_, .move _, _, _, _, some _⟩ :: _) _ _)); refine wpList_and k1 g2 _ _ _ rfl rfl rfl (by cases k1 <;> rfl) rfl (fun _ => rfl) (fun _ => rfl) ?_; intro vA2 k2 hk2; have HK2 := Lib.hid hk2; clear hk2)
    | go_values | go_skip | go_guarded | go_step | go_upon)
  go_loopw [7, 14] (fun a i wr => ∃ (k : Nat) (c : Bool) (o : Value), k ≤ l2.length ∧ i = .int .i64 k ∧ a = .bool (!c) ∧ Hid (RefI 29 1 (.list i64) ws2 w1.heap.size 32 ((([] : List Value) ++ ([.int .i64 (wrap64 (m0 : Int))] : List Value)) ++ ([y1] : List Value)) ([] : List Value) l2 k2 o k c wr)) (fun _ i _ => l2.length - (intOf i).toNat)
  case atStart => exact ⟨0, k2, _, Nat.zero_le _, rfl, rfl, Lib.hid (RefI.start HXS2.out)⟩
  case round =>
    obtain ⟨k, kc2, o2, hk, rfl, rfl, HI⟩ := hrel
    by_cases hlt : k < l2.length
    · obtain ⟨css, hown, hob, hlo, hbx, hch⟩ := HI.out
      obtain ⟨bm, om, hAm, hTm, hbm, hallm⟩ := Bsr.all HROW2.out (by omega)
      subst hAm
      obtain ⟨Ay, cy, hcy, hyb⟩ := hallm k l2[k] (List.getElem?_eq_getElem hlt)
      have hcyw : wr.cell? ⟨bm, om + k, none⟩ = some (.slice Ay l2[k].length cy) := (World.cell?_of_block (a := ⟨bm, om + k, none⟩) (hch.block bm hbm (fun e => hTm e))).trans hcy
      have htk : l2.take (k + 1) = l2.take k ++ [l2[k]] := List.take_succ_eq_append_getElem hlt
      have hyl := HRLL2.out l2[k] (List.getElem_mem hlt)
      have hyb2 := hyb.chg hch fun b hb h => hb h
      obtain ⟨y, hy⟩ : ∃ y, y = l2[k] := ⟨_, rfl⟩
      rw [← hy] at hcyw htk hyl hyb2
      have HR := Lib.hid (rnums_any wr hyb2 hyl)
      obtain ⟨Ao, co, rfl⟩ := hown.form
      have HOWN := Lib.hid hown
      have HOB := Lib.hid hob
      have HLO := Lib.hid hlo
      have HCH := Lib.hid hch
      have HTK := Lib.hid htk
      have HBX := Lib.hid hbx
      have H63 := Lib.hid (show k + 1 ≤ maxLen ∧ (k + 1) * 24 ≤ 140737488355328 from ⟨by simp only [maxLen]; omega, by omega⟩)
      have hzr := hch.size
      clear hown hob hlo hch htk hbx hyl hy hyb hyb2 hcy hallm hTm hbm HI
      go_wp2_with fail
      refine HR.out.mono ?_
      rintro e wa ⟨hba, q, g, rfl, hs⟩
      obtain ⟨qy, rfl⟩ : ∃ qy, q = [qy] := List.length_eq_one_iff.1 hs.1
      have hqy : qy.oneCell' = true := hs.2.1 qy (by simp)
      have HQY := Lib.hid hqy
      have H1 := Lib.hid hs.2.1
      have HXb := Lib.hid (HBX.out.below hba HBX.out.lt)
      have HBA := Lib.hid hba
      have HSQ := Lib.hid hs
      have hza := hba.size
      have HCB := Lib.hid (Chg.refl (fun _ => False) wa)
      have hco : wa.cell? ⟨w1.heap.size, 2, none⟩ = some (.slice Ao k co) := blk_mid HXb.out HPL2.out
      have HO2 := Lib.hid (show ∀ ob, Own (wa.alloc ob) 29 1 (.slice Ao k co) k css.flatten from fun ob => own_keep HOWN.out fun b hb => (Below.heap_alloc wa ob b (ltle (own_lt HOWN.out hb) HBA.out.size)).trans (HBA.out.block b (own_lt HOWN.out hb)))
      have HS2 := Lib.hid (Cs.of_new wa 29 (size := 1) 1 (cs := [qy]) rfl (by simp only [maxLen]; decide))
      clear hba hs hqy hcyw HR
      go_simp
      repeat (first
        | (go_big_may; refine wpList_row1 rfl 30 29 _ rfl Tryz.underlying30 qy rfl [qy] (cells_one HQY.out) zNums_sizes (by simp) (by simp) ?_)
        | (go_big_may; at_builtin; refine wpList_app _ rfl _ _ _ rfl Tryz.underlying30 zNums_info rfl (by decide) (HO2.out _) rfl HS2.out rfl H1.out H63.out.1 H63.out.2 ?_; intro v6 w6 ho6 hc6 hnil6 hat6; clear hnil6; obtain ⟨A6, c6, rfl⟩ := ho6.form; have HX6 := Lib.hid (Blk.assoc_ ((HXb.out.alloc _).chg hc6 fun h => by have := HOB.out _ h; omega)); have HO6 := Lib.hid ho6; have HC6 := Lib.hid hc6; have HAT6 := Lib.hid hat6; clear ho6 hc6 hat6)
        | (go_big_may; refine wpList_store_part (pre := ((([] : List Value) ++ ([.int .i64 (wrap64 (m0 : Int))] : List Value)) ++ ([y1] : List Value))) (old := ([.slice Ao k co] : List Value)) (vals := ([.slice A6 (k + 1) c6] : List Value)) (post := ([] : List Value)) rfl 30 _ _ rfl HX6.out HPL2.out rfl (v := .slice A6 (k + 1) c6) rfl rfl (by simp only [List.length_cons, List.length_nil]) (by kernel_rfl) (fun u hu => by obtain rfl := List.mem_singleton.1 hu; rfl) ?_; intro w7 hx7 hc7; have HX7 := Lib.hid hx7; have HC7 := Lib.hid hc7; clear hx7 hc7)
        | ((with_reducible (show wpList _ _ _ (⟨_, .move _, _, _, _, some _⟩ :: _) _ _)); refine wpList_and kc2 g _ _ _ rfl rfl rfl (by cases kc2 <;> rfl) rfl (fun _ => rfl) (fun _ => rfl) ?_; intro vA cN hcN; have HCN := Lib.hid hcN; clear hcN)
        | go_values | go_skip | go_guarded | go_step | go_upon)
      go_wp2_with fail
      exact ⟨⟨k + 1, cN, _, by omega, by push_cast; rfl, rfl, Lib.hid (RefI.step (by omega) HOWN.out HOB.out HLO.out HCH.out HBA.out HSQ.out HCB.out HTK.out HO6.out HC6.out HAT6.out HX7.out HC7.out HCN.out)⟩, by simp only [intOf]; omega⟩
    · have hk' : k = l2.length := by omega
      subst hk'
      have HS2 := Lib.hid (HI.out.out rfl HSPL2.out HK2.out)
      obtain ⟨css, hown, _, _, hbx, hch⟩ := HI.out
      have HX5 := Lib.hid hbx
      have HC4 := Lib.hid (show Chg (fun b => b = w1.heap.size) w4 wr from (Chg.of_below HBS2.out fun b => b = w1.heap.size).trans hch fun b h => .inl h)
      clear hown hbx hch HI hk HXS2 HPS2 HROW2 HRLL2
      generalize wr = w5 at *
      have HPL2 := HPL2
      have HP5 := Lib.hid (HP4.out.trans HC4.out fun b h => .inl h)
      have hz5 := Nat.le_trans hz4 HC4.out.size
      cases kc2 <;> refine Hid.out ?_
      · refine Lib.hid ?_
        have HRR := Lib.hid ((HR1.out.chg HP5.out (fun h => by have h : w.heap.size = w1.heap.size := h; omega)))
        have HB0 := Lib.hid (HB1.out.trans (HP5.out.below HB1.out.size fun b h => by have h : b = w1.heap.size := h; omega))
        have hkb1 : ∀ b, w3.heap.size ≤ b → b < wa1.heap.size → b < w4.heap.size ∧ w4.heap[b]? = wa1.heap[b]? := fun b hb hlt => ⟨ltle hlt HCD1.out.size, HCD1.out.block b hlt fun e => by have e : b = w1.heap.size := e; omega⟩
        have ho0 : SOut i64 w3 (Nw w2.heap.size w3) r0 ([.int .i64 (wrap64 (m0 : Int))] : List Value) false g0 := (HS0.out w3 (Nw w2.heap.size w3))
        have ho1 : SOut (.list i64) w4 (Nw w3.heap.size w4) r1 ([y1] : List Value) g0 k1 := (HS1.out.nw (k' := w3.heap.size) (w' := w4) hkb1 (Nat.le_refl _)).orr g0 k1 HK1.out
        have ho2 : SOut (.list (.list i64)) w5 (Nw w4.heap.size w5) r2 ([o2] : List Value) k1 false := (HS2.out.nw (k' := w4.heap.size) (fun b _ hlt => ⟨hlt, rfl⟩) hzt2)
        have hout : Fs.Out (.cons i64 (.cons (.list i64) (.cons (.list (.list i64)) .nil))) w5 (Nw (w.heap.size + 1) w5) [r0, r1, r2] (([.int .i64 (wrap64 (m0 : Int))] : List Value) ++ (([y1] : List Value) ++ (([o2] : List Value) ++ []))) false false := Fs.Out.stepR ho0 (Fs.Out.stepR ho1 (Fs.Out.stepR ho2 (Fs.Out.nil_ w5 _ _) (Chg.refl (fun k => k = w1.heap.size) _) (by omega) (by omega)) HC4.out (by omega) (by omega)) (HC3.out.trans HC4.out fun b h => .inl h) (by omega) (by omega)
        have htup : SOut tRecord w5 (Nw (w.heap.size + 1) w5) bs (([.int .i64 (wrap64 (m0 : Int))] : List Value) ++ (([y1] : List Value) ++ (([o2] : List Value) ++ []))) false false := Fs.Out.tup (n := 3) hout (.inl ⟨rfl, HSP.out⟩) fun l x h => Fs.decs_len _ l x h
        have hpre : (((([] : List Value) ++ ([.int .i64 (wrap64 (m0 : Int))] : List Value)) ++ ([y1] : List Value)) ++ ([o2] : List Value)) = (([.int .i64 (wrap64 (m0 : Int))] : List Value) ++ (([y1] : List Value) ++ (([o2] : List Value) ++ []))) := by simp
        obtain ⟨C, hC⟩ : ∃ C, C = (([.int .i64 (wrap64 (m0 : Int))] : List Value) ++ (([y1] : List Value) ++ (([o2] : List Value) ++ []))) := ⟨_, rfl⟩
        rw [← hC] at htup hpre
        have hX := HX5.out
        rw [hpre, List.append_nil] at hX
        have HX := Lib.hid hX
        have hCl : C.length = 3 := htup.1
        have HI := Lib.hid (zrRecord_sized hCl)
        have HL := Lib.hid (show zrRecord.length = C.length from by rw [hCl]; exact zrRecord_len)
        have H1 := Lib.hid htup.2.1
        have HT := Lib.hid htup
        clear hout htup hpre hX hCl hC ho0 ho1 ho2 hkb1
        go_wp2_with (first
          | (refine wpList_load_blk' rfl 32 _ rfl HX.out rfl Tryz.underlying32 rfl HI.out ?_)
          | (refine wpList_store_blk (cs0 := zrRecord) (cs := C) rfl 32 _ _ rfl HRR.out rfl rfl HL.out HI.out H1.out ?_; intro w9 hb9 hc9; have HB9 := Lib.hid hb9; have HC9 := Lib.hid hc9; clear hb9 hc9))
        have hld := run_loadVar_mid (P := Tryz.prog) w9 w.heap.size 0 32 C _ HB9.out.range Tryz.underlying32 rfl HI.out
        refine bodyPost_ret (v := .tuple #[.agg (C).toArray, .bool true]) (by simp [results, Tryz.results20, asAddr, hld]) rfl ?_
        exact ⟨HB0.out.trans (HC9.out.below HB0.out.size fun b h => Nat.le_of_eq h.symm), C, false, rfl, HT.out.nw (w' := w9) (k' := w.heap.size) (fun b hb hlt => ⟨ltle hlt HC9.out.size, HC9.out.block b hlt fun e => by have e : b = w.heap.size := e; omega⟩) (by omega), fun h => by cases h⟩
      · refine Lib.hid ?_
        have HRR := Lib.hid ((HR1.out.chg HP5.out (fun h => by have h : w.heap.size = w1.heap.size := h; omega)))
        have HB0 := Lib.hid (HB1.out.trans (HP5.out.below HB1.out.size fun b h => by have h : b = w1.heap.size := h; omega))
        have hkb1 : ∀ b, w3.heap.size ≤ b → b < wa1.heap.size → b < w4.heap.size ∧ w4.heap[b]? = wa1.heap[b]? := fun b hb hlt => ⟨ltle hlt HCD1.out.size, HCD1.out.block b hlt fun e => by have e : b = w1.heap.size := e; omega⟩
        have ho0 : SOut i64 w3 (Nw w2.heap.size w3) r0 ([.int .i64 (wrap64 (m0 : Int))] : List Value) false g0 := (HS0.out w3 (Nw w2.heap.size w3))
        have ho1 : SOut (.list i64) w4 (Nw w3.heap.size w4) r1 ([y1] : List Value) g0 k1 := (HS1.out.nw (k' := w3.heap.size) (w' := w4) hkb1 (Nat.le_refl _)).orr g0 k1 HK1.out
        have ho2 : SOut (.list (.list i64)) w5 (Nw w4.heap.size w5) r2 ([o2] : List Value) k1 true := (HS2.out.nw (k' := w4.heap.size) (fun b _ hlt => ⟨hlt, rfl⟩) hzt2)
        have hout : Fs.Out (.cons i64 (.cons (.list i64) (.cons (.list (.list i64)) .nil))) w5 (Nw (w.heap.size + 1) w5) [r0, r1, r2] (([.int .i64 (wrap64 (m0 : Int))] : List Value) ++ (([y1] : List Value) ++ (([o2] : List Value) ++ []))) false true := Fs.Out.stepR ho0 (Fs.Out.stepR ho1 (Fs.Out.stepR ho2 (Fs.Out.nil_ w5 _ _) (Chg.refl (fun k => k = w1.heap.size) _) (by omega) (by omega)) HC4.out (by omega) (by omega)) (HC3.out.trans HC4.out fun b h => .inl h) (by omega) (by omega)
        have htup : SOut tRecord w5 (Nw (w.heap.size + 1) w5) bs (([.int .i64 (wrap64 (m0 : Int))] : List Value) ++ (([y1] : List Value) ++ (([o2] : List Value) ++ []))) false true := Fs.Out.tup (n := 3) hout (.inl ⟨rfl, HSP.out⟩) fun l x h => Fs.decs_len _ l x h
        have HNO := Lib.hid (show Sh.dec tRecord bs = none from by
          rcases htup.2.2 with ⟨_, _, h, _⟩ | ⟨h, _⟩
          · cases h
          · exact h)
        clear hout htup ho0 ho1 ho2 hkb1
        go_wp2_with (refine wpList_store_blk (cs0 := zrRecord) (cs := zrRecord) rfl 32 _ _ rfl HRR.out rfl rfl rfl zrRecord_size zrRecord_one ?_; intro w9 hb9 hc9; have HB9 := Lib.hid hb9; have HC9 := Lib.hid hc9; clear hb9 hc9)
        have hld := run_loadVar_mid (P := Tryz.prog) w9 w.heap.size 0 32 zrRecord _ HB9.out.range Tryz.underlying32 rfl zrRecord_size
        refine bodyPost_ret (v := .tuple #[.agg (zrRecord).toArray, .bool false]) (by simp [results, Tryz.results20, asAddr, hld]) rfl ?_
        exact ⟨HB0.out.trans (HC9.out.below HB0.out.size fun b h => Nat.le_of_eq h.symm), _, true, rfl, ⟨zrRecord_len, zrRecord_one, .inr ⟨HNO.out, rfl⟩⟩, fun _ => rfl⟩
end
section
open Go.RowKit Go.Maps
attribute [-simp] Tryz.isAgg36 Tryz.typeInfo36 Tryz.isAgg32 Tryz.typeInfo32
set_option maxHeartbeats 8000000 in
set_option maxRecDepth 100000 in
theorem read_Record (w : World) {S : Nat → Prop} {v : Value} {bs : List UInt8} {sent : Value} (h : Bs w S v bs) (hlen : bs.length ≤ 1099511627776) (hp : Pk w sent) :
    Calls Tryz.prog 5 #[.int .i64 4, v] w (ReadAns w bs) := by
  have HF := Lib.hid (ReadRecord_any w h hp)
  have HB := Lib.hid h
  have HLEN := Lib.hid hlen
  obtain ⟨A, cap, rfl⟩ := h.form
  clear h hlen hp
  go_enter Tryz.func5, Tryz.ntmps5
  go_wp2_with fail
  refine HF.out.mono ?_
  rintro e w1 ⟨hb1, C, n, rfl, hCl, hC1, hn⟩
  have hCl : C.length = 3 := hCl
  have HZL := Lib.hid (show zrRecord.length = C.length from by rw [hCl]; exact zrRecord_len)
  have HCI := Lib.hid (zrRecord_sized hCl)
  have HC1 := Lib.hid hC1
  have HN := Lib.hid hn
  have HB1 := Lib.hid hb1
  have HBB := Lib.hid (HB.out.below hb1)
  have hz1 := hb1.size
  clear hCl hC1 hn hb1 HF
  go_wp2_with (refine wpList_store_blk (cs0 := zrRecord) (cs := C) rfl 32 _ _ rfl (Blk.new w1 _ _) rfl rfl HZL.out HCI.out HC1.out ?_; intro w2 hyy hcc; have HX2 := Lib.hid hyy; have HCw2 := Lib.hid (show Chg (fun _ => False) w1 w2 from ((Chg.refl _ w1).alloc _).trans hcc fun b h => .inr (Nat.le_of_eq h.symm)); clear hyy hcc)
  have hz2 := HCw2.out.size
  have HB2 := Lib.hid (HB1.out.trans (HCw2.out.below HB1.out.size fun b h => h.elim))
  refine (rReadRecord_any w2 (HBB.out.chg HCw2.out fun _ _ h => h) HLEN.out).mono ?_
  rintro e w3 ⟨hb3, D, g, rfl, hs, hzz⟩
  have hDl : D.length = 3 := hs.1
  have HZD := Lib.hid (show zrRecord.length = D.length from by rw [hDl]; exact zrRecord_len)
  have HDI := Lib.hid (zrRecord_sized hDl)
  have HD1 := Lib.hid hs.2.1
  have HS := Lib.hid hs
  have HZZ := Lib.hid hzz
  have HX3 := Lib.hid (HX2.out.below hb3 HX2.out.lt)
  have HB23 := Lib.hid hb3
  have HB3 := Lib.hid (HB2.out.trans (hb3.mono HB2.out.size))
  have hz3 := hb3.size
  clear hDl hs hzz hb3 HBB HX2
  by_cases hn0 : n = 0
  · subst hn0
    obtain ⟨hbl, x, hdx, hrx⟩ : bs.length ≤ 262144 ∧ ∃ x, Sh.dec tRecord bs = some x ∧ Sh.rep w1 (fun b => w.heap.size ≤ b) tRecord x C := by
      rcases HN.out with ⟨_, h⟩ | ⟨hb, ⟨x, h1, _, h3⟩ | ⟨_, h⟩⟩
      · cases h
      · exact ⟨hb, x, h1, h3⟩
      · cases h
    obtain ⟨rfl, hry⟩ : g = false ∧ Sh.rep w3 (Nw w2.heap.size w3) tRecord x D := by
      rcases HS.out.2.2 with ⟨y, h1, h2, h3⟩ | ⟨h1, _⟩
      · rw [hdx] at h1; injection h1 with h1; subst h1; exact ⟨h2, h3⟩
      · rw [hdx] at h1; cases h1
    have hex : Sh.enc tRecord x = bs := (Sh.enc_dec _ _ _ hdx).1
    have HEX := Lib.hid hex
    have HLX := Lib.hid (show (Sh.enc tRecord x).length ≤ 1099511627776 by rw [hex]; exact HLEN.out)
    have HBL := Lib.hid hbl
    have HRX := Lib.hid (Sh.rep_below (Sh.rep_chg hrx HCw2.out fun _ _ h => h) HB23.out)
    have HRY := Lib.hid hry
    clear hdx hrx hry hex hbl HN HS HZZ
    go_simp
    go_wp2_with (refine wpList_store_blk (cs0 := zrRecord) (cs := D) rfl 32 _ _ rfl (Blk.new w3 _ _) rfl rfl HZD.out HDI.out HD1.out ?_; intro w4 hyy hcc; have HY4 := Lib.hid hyy; have HCw4 := Lib.hid (show Chg (fun _ => False) w3 w4 from ((Chg.refl _ w3).alloc _).trans hcc fun b h => .inr (Nat.le_of_eq h.symm)); clear hyy hcc)
    have hx := (HX3.out.chg HCw4.out id).drew
    have hy := HY4.out.drew
    have hb := (HB3.out.trans (HCw4.out.below HB3.out.size fun b h => h.elim)).drew
    have hb4 : Below w4.heap.size w4 w4.drew := (Below.refl _ w4).drew
    have hrx := Sh.rep_below (Sh.rep_chg HRX.out HCw4.out fun _ _ h => h) hb4
    have hry := Sh.rep_below (Sh.rep_chg HRY.out HCw4.out fun _ _ h => h) hb4
    have hz4 := HCw4.out.size
    refine wp_region_segsV [([0, 2, 3, 5], [1]), ([], [4]), ([6, 7, 8, 9], [])] (by kernel_rfl) (by kernel_rfl) (by kernel_rfl) (by kernel_rfl)
      (SegV.mk (fun w' => Blk w' w1.heap.size 32 C.toArray ∧ Blk w' w3.heap.size 32 D.toArray) (fun _ _ => trivial) ⟨hx, hy⟩ ?_)
    (refine HoistK.load (by rfl) (by kernel_rfl) 32 _ rfl w1.heap.size 0 rfl C _ (fun w' hw => hw.1.range) Tryz.underlying32 rfl HCI.out ?_; simp only [Act.put, setIfInBounds_toArray, getElem_toArray, getElem_cons_zero, set_cons_succ, set_cons_zero])
    (refine HoistK.yes (by rfl) (by kernel_rfl) ⟨?_, fun w' hSw => ?_, ?_⟩; rotate_left; (· go_simp; try with_reducible rfl); simp only [Act.put, setIfInBounds_toArray, getElem_toArray, getElem_cons_succ, getElem_cons_zero, set_cons_succ, set_cons_zero])
    (refine HoistK.load (by rfl) (by kernel_rfl) 32 _ rfl w3.heap.size 0 rfl D _ (fun w' hw => hw.2.range) Tryz.underlying32 rfl HDI.out ?_; simp only [Act.put, setIfInBounds_toArray, getElem_toArray, getElem_cons_succ, getElem_cons_zero, set_cons_succ, set_cons_zero])
    (refine HoistK.yes (by rfl) (by kernel_rfl) ⟨?_, fun w' hSw => ?_, ?_⟩; rotate_left; (· go_simp; try with_reducible rfl); simp only [Act.put, setIfInBounds_toArray, getElem_toArray, getElem_cons_succ, getElem_cons_zero, set_cons_succ, set_cons_zero])
    refine HoistK.nil_ ?_
    simp only [opsAt, filterMap_cons, filterMap_nil, getElem?_toArray, getElem?_cons_succ, getElem?_cons_zero]
    refine EffS.cons_ fun _ hQ => ?_
    go_wp2_with fail
    refine (rRecord_any _ hrx HLX.out).mono ?_
    rintro e w5 ⟨v5, rfl, f5⟩
    rw [HEX.out] at f5
    obtain ⟨A5, c5, rfl⟩ := f5.1.form
    have hx5 := hx.below f5.2 hx.lt
    have hy5 := hy.below f5.2 hy.lt
    have hb5 := hb.trans (f5.2.mono hb.size)
    have hry5 := Sh.rep_below hry f5.2
    have hw5 := f5.1.sub (T := fun b => w.heap.size ≤ b) fun b hb' _ => Nat.le_trans hb.size hb'.1
    clear f5
    go_wp2_with fail
    refine hQ _ _ ⟨hx5, hy5⟩ (EffS.nil_ (SegV.mk (fun w' => (Blk w' w1.heap.size 32 C.toArray ∧ Blk w' w3.heap.size 32 D.toArray) ∧ Bs w' (fun b => w.heap.size ≤ b) (.slice A5 bs.length c5) bs) (fun _ h => h.1) ⟨⟨hx5, hy5⟩, hw5⟩ ?_))
    refine HoistK.nil_ ?_
    simp only [opsAt, filterMap_cons, filterMap_nil, getElem?_toArray, getElem?_cons_succ, getElem?_cons_zero]
    refine EffS.cons_ fun _ hQ => ?_
    go_wp2_with fail
    refine (rRecord_any _ hry5 HLX.out).mono ?_
    rintro e w6 ⟨v6, rfl, f6⟩
    rw [HEX.out] at f6
    obtain ⟨A6, c6, rfl⟩ := f6.1.form
    have hx6 := hx5.below f6.2 hx5.lt
    have hy6 := hy5.below f6.2 hy5.lt
    have hb6 := hb5.trans (f6.2.mono hb5.size)
    have hw56 := hw5.below f6.2
    have hw6 := f6.1.sub (T := fun b => w.heap.size ≤ b) fun b hb' _ => Nat.le_trans hb5.size hb'.1
    clear f6
    go_wp2_with fail
    refine hQ _ _ ⟨⟨hx6, hy6⟩, hw56⟩ (EffS.nil_ (SegV.mk (fun w' => ((Blk w' w1.heap.size 32 C.toArray ∧ Blk w' w3.heap.size 32 D.toArray) ∧ Bs w' (fun b => w.heap.size ≤ b) (.slice A5 bs.length c5) bs) ∧ Bs w' (fun b => w.heap.size ≤ b) (.slice A6 bs.length c6) bs) (fun _ h => h.1) ⟨⟨⟨hx6, hy6⟩, hw56⟩, hw6⟩ ?_))
    iterate 4 (refine HoistK.yes (by rfl) (by kernel_rfl) ⟨?_, fun w' hSw => ?_, ?_⟩; rotate_left; (· go_simp; try with_reducible rfl); simp only [Act.put, setIfInBounds_toArray, getElem_toArray, getElem_cons_succ, getElem_cons_zero, set_cons_succ, set_cons_zero])
    refine HoistK.nil_ ?_
    simp only [opsAt, filterMap_nil, getElem?_toArray]
    refine EffS.nil_ fun _ hQ => ?_
    go_wp2_with fail
    ((try simp only [Exit.inBlock, Exit.then]); refine bodyPost_ret (results_tmp4 rfl _ _ _) rfl ?_)
    exact ⟨hb6, _, _, 0, true, rfl, .inr ⟨HBL.out, .inl ⟨rfl, rfl, hw56, hw6⟩⟩⟩
  · obtain ⟨x, hrx, hlx⟩ : ∃ x, Sh.rep w3 (Nw w2.heap.size w3) tRecord x D ∧ (Sh.enc tRecord x).length ≤ 1099511627776 := by
      rcases HS.out.2.2 with ⟨x, h1, _, h3⟩ | ⟨_, h2⟩
      · exact ⟨x, h3, by rw [(Sh.enc_dec _ _ _ h1).1]; exact HLEN.out⟩
      · rw [HZZ.out h2]
        exact ⟨Sh.zel tRecord, Sh.zel_rep w3 _ tRecord, by rw [Sh.zel_len]; decide⟩
    have hans : (262144 < bs.length ∧ n = 4) ∨ (bs.length ≤ 262144 ∧ n = 5 ∧ g = true) := by
      rcases HN.out with h | ⟨hb, ⟨_, _, h, _⟩ | ⟨h1, h2⟩⟩
      · exact .inl h
      · exact absurd h hn0
      · refine .inr ⟨hb, h2, ?_⟩
        rcases HS.out.2.2 with ⟨y, h3, _, _⟩ | ⟨_, h3⟩
        · rw [h1] at h3; cases h3
        · exact h3
    have HANS := Lib.hid hans
    have HRX := Lib.hid hrx
    have HLX := Lib.hid hlx
    clear hans hrx hlx HN HS HZZ
    go_simp
    go_wp2_with (first
      | (refine wpList_store_blk (cs0 := zrRecord) (cs := D) rfl 32 _ _ rfl (Blk.new w3 _ _) rfl rfl HZD.out HDI.out HD1.out ?_; intro w4 hyy hcc; have HY4 := Lib.hid hyy; have HCw4 := Lib.hid (show Chg (fun _ => False) w3 w4 from ((Chg.refl _ w3).alloc _).trans hcc fun b h => .inr (Nat.le_of_eq h.symm)); clear hyy hcc)
      | (refine wpList_load_blk' rfl 32 _ rfl HY4.out rfl Tryz.underlying32 rfl HDI.out ?_))
    have hb4 := HB3.out.trans (HCw4.out.below HB3.out.size fun b h => h.elim)
    refine (rRecord_any _ (Sh.rep_chg HRX.out HCw4.out fun _ _ h => h) HLX.out).mono ?_
    rintro e w5 ⟨v5, rfl, f5⟩
    have hb5 := hb4.trans (f5.2.mono hb4.size)
    clear f5
    go_wp2_with fail
    ((try simp only [Exit.inBlock, Exit.then]); refine bodyPost_ret (results_tmp4 rfl _ _ _) rfl ?_)
    refine ⟨hb5, _, _, n, !g, rfl, ?_⟩
    rcases HANS.out with h | ⟨h1, h2, h3⟩
    · exact .inl h
    · exact .inr ⟨h1, .inr ⟨h2, by rw [h3]; rfl⟩⟩
end
section
open Go.RowKit Go.Maps
attribute [-simp] Tryz.isAgg36 Tryz.typeInfo36 Tryz.isAgg61 Tryz.typeInfo61
theorem size_allFact_any : (Tryz.prog.info? 61).map (·.size) = some 73 := by kernel_rfl
theorem sizes_allFact_any : (Tryz.prog.info? 61).map (fun i => (i.zero.map (fun z => z.cells.size), i.size)) = some (some 73, 73) := by kernel_rfl
theorem info_allFact_any : (Tryz.prog.info? 61).map (fun i => (i.zero, i.size, i.bytes)) = some (some (.agg (([.slice none 0 0] ++ ([.int .i64 0, .int .i64 0, .int .i64 0] ++ List.replicate 32 (.int .u8 0) ++ [.slice none 0 0, .slice none 0 0]) ++ List.replicate 32 (.int .u8 0) ++ [.slice none 0 0, .bool false, .slice none 0 0] : List Value)).toArray), 73, 216) := by kernel_rfl
set_option maxHeartbeats 8000000 in
set_option maxRecDepth 100000 in
theorem allFact_any (w : World) {X : Nat → Prop} {E g : Nat} {sent : Value} {x : List UInt8} {rows : List (List UInt8)} {bad : Bool} (h : Pt w X E g sent (x :: rows) bad) (hxl : x.length ≤ 262144) :
    Calls Tryz.prog 91 #[.pointer (some ⟨g, 0, none⟩), .func (Fn.func 59) #[] #[]] w (Took (.list tFact) w X E g sent x rows bad) := by
  have hgx := h.2.2.1
  have hgw := h.lt
  have hEw := h.2.2.2.2.1
  have HGX := Lib.hid hgx
  have HX1 := Lib.hid (show ∀ b, X b → b < w.heap.size from h.2.2.2.1)
  have H := Lib.hid (next_any _ h)
  clear h hgx
  go_enter Tryz.func91, Tryz.ntmps91
  go_wp2_with fail
  refine H.out.mono ?_
  rintro e w1 ⟨v1, rfl, hb1, hc1, hp1⟩
  have HSP := Lib.hid (split_any w1 hb1 (by omega))
  have hz1 := hc1.size
  have HP1 := Lib.hid hp1
  have HC1 := Lib.hid hc1
  obtain ⟨A1, c1, rfl⟩ := hb1.form
  clear hb1 hp1 hc1 H
  go_wp2_with fail
  refine HSP.out.mono ?_
  rintro e w2 ⟨hb2, ⟨hno, rfl⟩ | ⟨v2, l, hsp, rfl, hbss⟩⟩
  · have HNO := Lib.hid hno; clear hno
    have hp2 := HP1.out.below hb2
    obtain ⟨⟨sa, rfl⟩, hgl⟩ := hp2.1
    have hgl : w2.cell? ⟨gF, 0, none⟩ = some _ := hgl
    unfold gF at hgl
    have hlx := hp2.2.2.2.1
    have hE2 := hp2.2.2.2.2.1
    have hal := (Below.refl w2.heap.size w2).alloc (Nat.le_refl _) (.cells #[.string ⟨#[97, 32, 108, 105, 115, 116]⟩, .iface 237 (.pointer (some sa))] 158)
    have HBAD := Lib.hid (bad_any _ (hp2.below hal) (Chain.fresh _ ⟨fun h => absurd (hlx _ h) (Nat.lt_irrefl _), hE2⟩))
    have HC2 := Lib.hid (HC1.out.trans (Chg.of_below hb2 fun k => k = g) fun b h => .inl h)
    clear hp2 hlx hal hE2 hb2 HP1 HC1 HSP
    go_wp2_with fail
    refine HBAD.out.mono ?_
    rintro e w3 ⟨rfl, hc3, hp3⟩
    have HP3 := Lib.hid hp3
    have HC3 := Lib.hid hc3
    clear hp3 hc3 HBAD
    go_wp2_with fail
    refine wp_loop_rounds 1 ?_
    rw [rounds_succ]
    go_wp2
    go_ret
    exact ⟨[.slice none 0 0], true, rfl, (HC2.out.alloc _).trans HC3.out fun b h => .inl h, HP3.out, SOut.noList HNO.out rfl⟩
  · have hrl : ∀ y ∈ l, y.length ≤ 262144 := fun y hy => Nat.le_trans (joinP_mem_le hsp y hy) hxl
    have hll : l.length ≤ 32768 := by
      have h1 := splitB_back hsp
      have h2 := joinP_count l
      rw [← h1, joinB_length] at hxl
      omega
    obtain ⟨A2, c2, rfl⟩ := hbss.form
    have HROWS := Lib.hid (((hbss.read fun y hy => by have := hrl y hy; omega).lt_ (T := fun b => w1.heap.size ≤ b) fun b h => h.elim id id).subs (T := fun b => b ≠ g) fun b hb _ => by have := hb.1; omega)
    have HP2 := Lib.hid (HP1.out.below hb2)
    have HC2 := Lib.hid (HC1.out.trans (Chg.of_below hb2 fun k => k = g) fun b h => .inl h)
    have HSPL := Lib.hid hsp
    have HRL := Lib.hid hrl
    have hwS : w.heap.size ≤ w2.heap.size := Nat.le_trans hz1 hb2.size
    clear hbss hsp hrl hb2 HP1 HC1 HSP hxl
    go_wp2_with fail
    go_loopw [7, 28] (fun o i wr => ∃ k : Nat, k ≤ l.length ∧ i = .int .i64 k ∧ AllI 61 73 tFact w w2 X E g sent rows bad l o k wr) (fun _ i _ => l.length - (intOf i).toNat)
    case atStart => exact ⟨0, Nat.zero_le _, rfl, AllI.start HP2.out⟩
    case round =>
      obtain ⟨k, hk, rfl, hI⟩ := hrel
      by_cases hlt : k < l.length
      · obtain ⟨css, bk, hown, hob, hlo, hpt, hch⟩ := hI
        obtain ⟨ba, oa, ua, rfl, hca, hua, _, hSb⟩ := (HROWS.out.chg hch (fun b hb h => hb h)).at_ hlt
        have htk : l.take (k + 1) = l.take k ++ [l[k]] := List.take_succ_eq_append_getElem hlt
        have hyl := HRL.out l[k] (List.getElem_mem hlt)
        obtain ⟨y, hy⟩ : ∃ y, y = l[k] := ⟨_, rfl⟩
        rw [← hy] at hua htk hyl
        have HR := Lib.hid (readFact_any wr hua hyl hpt.1)
        obtain ⟨Ay, cy, rfl⟩ := hua.form
        obtain ⟨Ao, co, rfl⟩ := hown.form
        have HOWN := Lib.hid hown
        have HOB := Lib.hid hob
        have HLO := Lib.hid hlo
        have HPT := Lib.hid hpt
        have HCH := Lib.hid hch
        have HTK := Lib.hid htk
        have H63 := Lib.hid (show k + 1 ≤ maxLen ∧ (k + 1) * 216 ≤ 140737488355328 from ⟨by simp only [maxLen]; omega, by omega⟩)
        have hzr := hch.size
        clear hown hob hlo hpt hch htk hy hua hyl
        go_wp2_with fail
        refine HR.out.mono ?_
        rintro e w3 hro
        obtain ⟨C, err, bd, rfl, h1, hl, hb3, he, ho⟩ := hro.agg (fun _ => rfl)
        have hl : C.length = 73 := hl
        have HL := Lib.hid hl
        have HI := Lib.hid (show (Tryz.prog.info? 61).map (·.size) = some C.length from by rw [hl]; exact size_allFact_any)
        have HI2 := Lib.hid (show (Tryz.prog.info? 61).map (fun i => (i.zero.map (fun z => z.cells.size), i.size)) = some (some C.length, C.length) from by rw [hl]; exact sizes_allFact_any)
        have H1 := Lib.hid h1
        clear h1 hl
        have HB3 := Lib.hid hb3
        have HP3 := Lib.hid (HPT.out.below hb3)
        have HO := Lib.hid (ho.or_ bk)
        clear hro hb3 ho HR
        rcases he with ⟨rfl, rfl⟩ | ⟨rfl, hcn⟩
        · skip
          go_wp2_with (first
            | (refine wpList_store_blk (cs0 := ([.slice none 0 0] ++ ([.int .i64 0, .int .i64 0, .int .i64 0] ++ List.replicate 32 (.int .u8 0) ++ [.slice none 0 0, .slice none 0 0]) ++ List.replicate 32 (.int .u8 0) ++ [.slice none 0 0, .bool false, .slice none 0 0] : List Value)) (cs := C) rfl 61 _ _ rfl (Blk.new w3 _ _) rfl rfl (by rw [HL.out]; rfl) HI.out H1.out ?_; intro w4 hb4 hc4; have HB4 := Lib.hid hb4; have HC4 := Lib.hid (show Chg (fun _ => False) w3 w4 from ((Chg.refl _ w3).alloc _).trans hc4 fun b h => .inr (Nat.le_of_eq h.symm)); clear hb4 hc4; have HO2 := Lib.hid (show ∀ ob, Own (w4.alloc ob) 61 73 (.slice Ao k co) k css.flatten from fun ob => own_keep HOWN.out fun b hb => (by have h1 := own_lt HOWN.out hb; have h2 := HOB.out b hb; have h3 := HB3.out.size; exact (Below.heap_alloc w4 ob b (ltle (ltle h1 h3) HC4.out.size)).trans ((HC4.out.block b (ltle h1 h3) id).trans (HB3.out.block b h1)))); have HS2 := Lib.hid (Cs.of_new w4 61 (size := 73) 1 (cs := C) (by rw [HL.out]) (by simp only [maxLen]; decide)))
            | (refine wpList_load_blk' rfl 61 _ rfl HB4.out rfl Tryz.underlying61 rfl HI.out ?_)
            | (refine wpList_row1 rfl 70 61 _ rfl Tryz.underlying70 (.agg C.toArray) rfl C rfl HI2.out (by rw [HL.out]; decide) (by rw [HL.out]; decide) ?_)
            | (at_builtin; refine wpList_app _ rfl _ _ _ rfl Tryz.underlying70 info_allFact_any rfl (by decide) (HO2.out _) rfl HS2.out rfl H1.out H63.out.1 H63.out.2 ?_; intro v6 w6 ho6 hc6 hnil6 hat6; clear hnil6; have HO6 := Lib.hid ho6; clear ho6; have HC6 := Lib.hid hc6; clear hc6; have HAT6 := Lib.hid hat6; clear hat6))
          refine ⟨⟨k + 1, by omega, by push_cast; rfl, AllI.step hgw hwS HOWN.out HOB.out HLO.out HCH.out HB3.out (by have := HO.out; rw [Bool.or_false] at this; exact this) (HC4.out.mono (M' := fun b => b = g) fun _ h => h.elim) (HP3.out.chg HC4.out fun b h => h.elim) HTK.out HO6.out HC6.out HAT6.out⟩, ?_⟩
          simp only [intOf]; omega
        · skip
          obtain ⟨gw, rfl⟩ := hcn.form
          have HCN := Lib.hid hcn; clear hcn
          go_wp2_with (refine wpList_store_blk (cs0 := ([.slice none 0 0] ++ ([.int .i64 0, .int .i64 0, .int .i64 0] ++ List.replicate 32 (.int .u8 0) ++ [.slice none 0 0, .slice none 0 0]) ++ List.replicate 32 (.int .u8 0) ++ [.slice none 0 0, .bool false, .slice none 0 0] : List Value)) (cs := C) rfl 61 _ _ rfl (Blk.new w3 _ _) rfl rfl (by rw [HL.out]; rfl) HI.out H1.out ?_; intro w4 hb4 hc4; have HB4 := Lib.hid hb4; have HC4 := Lib.hid (show Chg (fun _ => False) w3 w4 from ((Chg.refl _ w3).alloc _).trans hc4 fun b h => .inr (Nat.le_of_eq h.symm)); clear hb4 hc4)
          have hp4 := (HP3.out.chg HC4.out fun b h => h.elim)
          have hlx := hp4.2.2.2.1
          have hE4 := hp4.2.2.2.2.1
          have hz4 := HC4.out.size
          have hz3 := HB3.out.size
          have hal := (Below.refl w4.heap.size w4).alloc (Nat.le_refl _) (.cells #[.string ⟨#[105, 110, 32, 97, 32, 108, 105, 115, 116]⟩, .iface 154 (.pointer (some ⟨gw, 0, none⟩))] 158)
          have hcn4 := (HCN.out.to (w' := w4) (S' := fun b => ¬ (X b ∨ (Value.slice Ao k co).ownBlock = some b) ∧ E ≤ b) (fun b hb hlt => ⟨ltle hlt HC4.out.size, HC4.out.block b hlt id⟩) fun b hb hlt => ⟨fun h => h.elim (fun h => by have := HX1.out b h; omega) fun h => by have := own_lt HOWN.out h; omega, by omega⟩)
          have HBAD := Lib.hid (bad_any _ (hp4.below hal) (hcn4.freshMore _ ⟨fun h => absurd (hlx _ h) (Nat.lt_irrefl _), hE4⟩))
          clear hp4 hlx hal hcn4 hE4
          refine HBAD.out.mono ?_
          rintro e w5 ⟨rfl, hc5, hp5⟩
          have HP5 := Lib.hid hp5
          have HC35 := Lib.hid (show Chg (fun b => b = g) w3 w5 from ((HC4.out.mono (M' := fun b => b = g) fun _ h => h.elim).alloc _).trans hc5 fun b h => .inl h)
          have HB5 := Lib.hid ((HB4.out.alloc _).chg hc5 (fun h => by omega))
          clear hc5 hp5 HBAD
          have HO2 := Lib.hid (show ∀ ob, Own (w5.alloc ob) 61 73 (.slice Ao k co) k css.flatten from fun ob => own_keep HOWN.out fun b hb => (by have h1 := own_lt HOWN.out hb; have h2 := HOB.out b hb; have h3 := HB3.out.size; exact (Below.heap_alloc w5 ob b (ltle (ltle h1 h3) HC35.out.size)).trans ((HC35.out.block b (ltle h1 h3) (fun e => by omega)).trans (HB3.out.block b h1))))
          have HS2 := Lib.hid (Cs.of_new w5 61 (size := 73) 1 (cs := C) (by rw [HL.out]) (by simp only [maxLen]; decide))
          go_wp2_with (first
            | (refine wpList_load_blk' rfl 61 _ rfl HB5.out rfl Tryz.underlying61 rfl HI.out ?_)
            | (refine wpList_row1 rfl 70 61 _ rfl Tryz.underlying70 (.agg C.toArray) rfl C rfl HI2.out (by rw [HL.out]; decide) (by rw [HL.out]; decide) ?_)
            | (at_builtin; refine wpList_app _ rfl _ _ _ rfl Tryz.underlying70 info_allFact_any rfl (by decide) (HO2.out _) rfl HS2.out rfl H1.out H63.out.1 H63.out.2 ?_; intro v6 w6 ho6 hc6 hnil6 hat6; clear hnil6; have HO6 := Lib.hid ho6; clear ho6; have HC6 := Lib.hid hc6; clear hc6; have HAT6 := Lib.hid hat6; clear hat6))
          refine ⟨⟨k + 1, by omega, by push_cast; rfl, AllI.step hgw hwS HOWN.out HOB.out HLO.out HCH.out HB3.out (by have := HO.out; rw [Bool.or_true] at this; exact this) HC35.out HP5.out HTK.out HO6.out HC6.out HAT6.out⟩, ?_⟩
          simp only [intOf]; omega
      · have hk' : k = l.length := by omega
        subst hk'
        have HI := Lib.hid hI
        clear hI
        go_wp2_with fail
        go_ret
        exact HI.out.out rfl HSPL.out (fun _ => rfl) HGX.out HC2.out
end
section
open Go.RowKit Go.Maps
attribute [-simp] Tryz.isAgg36 Tryz.typeInfo36 Tryz.isAgg72 Tryz.typeInfo72
theorem info_readTx : (Tryz.prog.info? 72).map (fun i => (i.zero.map (fun z => z.cells.size))) = some (some 41) := by kernel_rfl
theorem size_readTx : (Tryz.prog.info? 72).map (·.size) = some 41 := by kernel_rfl
theorem places_readTx : ((match Tryz.prog.underlying 72 with | some (.struct fields) => fields.toList.mapM (fun f => (Tryz.prog.info? f.type).map fun i => (f.offset, i.size)) | _ => none)) = some [(0, 1), (1, 1), (2, 1), (3, 1), (4, 1), (5, 1), (6, 1), (7, 32), (39, 1), (40, 1)] := by kernel_rfl
set_option maxHeartbeats 4000000 in
set_option maxRecDepth 100000 in
theorem readTx_any (w : World) {S : Nat → Prop} {v sent : Value} {bs : List UInt8} (h : Bs w S v bs) (hlen : bs.length ≤ 262144) (hg : Gl w sent) :
    Calls Tryz.prog 61 #[v] w (ReadOut (.tup (.cons i64 (.cons u64 (.cons u64 (.cons u64 (.cons u64 (.cons i64 (.cons i64 (.cons .dig (.cons i64 (.cons (.list tFact) .nil))))))))))) w sent bs) := by
  have hal := (Below.refl w.heap.size w).alloc (Nat.le_refl _) (.cells (([.int .i64 0, .int .u64 0, .int .u64 0, .int .u64 0, .int .u64 0, .int .i64 0, .int .i64 0] ++ List.replicate 32 (.int .u8 0) ++ [.int .i64 0, .slice none 0 0] : List Value)).toArray 72)
  have HS := Lib.hid (psplit_any _ (h.below hal) (by omega) (hg.below hal) 10 (by omega) ⟨#[97, 32, 116, 114, 97, 110, 115, 97, 99, 116, 105, 111, 110]⟩)
  have HN := Lib.hid (Blk.new w 72 (([.int .i64 0, .int .u64 0, .int .u64 0, .int .u64 0, .int .u64 0, .int .i64 0, .int .i64 0] ++ List.replicate 32 (.int .u8 0) ++ [.int .i64 0, .slice none 0 0] : List Value)).toArray)
  have HAL := Lib.hid hal
  obtain ⟨A, cap, rfl⟩ := h.form
  clear h hg hal
  go_enter Tryz.func61, Tryz.ntmps61
  go_wp2_with fail
  refine HS.out.mono ?_
  rintro e w1 ⟨g, rows, bad, rfl, hgw, hb1, hp, hn, hrl, hs⟩
  obtain ⟨r0, r1, r2, r3, r4, r5, r6, r7, r8, r9, rfl⟩ : ∃ r0 r1 r2 r3 r4 r5 r6 r7 r8 r9, rows = [r0, r1, r2, r3, r4, r5, r6, r7, r8, r9] := by
    match rows, hn with
    | [r0, r1, r2, r3, r4, r5, r6, r7, r8, r9], _ => exact ⟨r0, r1, r2, r3, r4, r5, r6, r7, r8, r9, rfl⟩
  have HK := Lib.hid (HN.out.below hb1 (by simp))
  have hgw' : w.heap.size + 1 ≤ g := by simpa using hgw
  have hz1 : w.heap.size + 1 ≤ w1.heap.size := by simpa using hb1.size
  have HB1 := Lib.hid (HAL.out.trans (hb1.mono (by simp)))
  have HSS := Lib.hid hs
  have HRL := Lib.hid (show ∀ x ∈ [r0, r1, r2, r3, r4, r5, r6, r7, r8, r9], x.length ≤ 262144 from fun x hx => Nat.le_trans (hrl x hx) hlen)
  have hE : Pt w1 (fun b => b = g) (w.heap.size + 1) g sent [r0, r1, r2, r3, r4, r5, r6, r7, r8, r9] bad := by simpa using hp
  clear HS HN HAL hgw hb1 hs hn hp hrl hlen
  have hp0 := hE
  clear hE
  go_wp2_with fail
  refine (int_any _ hp0).mono ?_
  rintro e w2 ht
  obtain ⟨y0, b0, rfl, h10, hc0, hp1, ho0⟩ := ht.one (fun _ => rfl) rfl
  have hgl0 := hp0.lt
  have hz2 := Nat.le_trans hz1 hc0.size
  have HO0 := Lib.hid ho0
  have HC0 := Lib.hid hc0
  have H10 := Lib.hid h10
  clear ht ho0 hc0 h10 hp0
  go_wp2_with fail
  refine (uTook_any _ hp1).mono ?_
  rintro e w3 ht
  obtain ⟨y1, b1, rfl, h11, hc1, hp2, ho1⟩ := ht.one (fun _ => rfl) rfl
  have hgl1 := hp1.lt
  have hz3 := Nat.le_trans hz2 hc1.size
  have HO1 := Lib.hid ho1
  have HC1 := Lib.hid hc1
  have H11 := Lib.hid h11
  clear ht ho1 hc1 h11 hp1
  go_wp2_with fail
  refine (uTook_any _ hp2).mono ?_
  rintro e w4 ht
  obtain ⟨y2, b2, rfl, h12, hc2, hp3, ho2⟩ := ht.one (fun _ => rfl) rfl
  have hgl2 := hp2.lt
  have hz4 := Nat.le_trans hz3 hc2.size
  have HO2 := Lib.hid ho2
  have HC2 := Lib.hid hc2
  have H12 := Lib.hid h12
  clear ht ho2 hc2 h12 hp2
  go_wp2_with fail
  refine (uTook_any _ hp3).mono ?_
  rintro e w5 ht
  obtain ⟨y3, b3, rfl, h13, hc3, hp4, ho3⟩ := ht.one (fun _ => rfl) rfl
  have hgl3 := hp3.lt
  have hz5 := Nat.le_trans hz4 hc3.size
  have HO3 := Lib.hid ho3
  have HC3 := Lib.hid hc3
  have H13 := Lib.hid h13
  clear ht ho3 hc3 h13 hp3
  go_wp2_with fail
  refine (uTook_any _ hp4).mono ?_
  rintro e w6 ht
  obtain ⟨y4, b4, rfl, h14, hc4, hp5, ho4⟩ := ht.one (fun _ => rfl) rfl
  have hgl4 := hp4.lt
  have hz6 := Nat.le_trans hz5 hc4.size
  have HO4 := Lib.hid ho4
  have HC4 := Lib.hid hc4
  have H14 := Lib.hid h14
  clear ht ho4 hc4 h14 hp4
  go_wp2_with fail
  refine (int_any _ hp5).mono ?_
  rintro e w7 ht
  obtain ⟨y5, b5, rfl, h15, hc5, hp6, ho5⟩ := ht.one (fun _ => rfl) rfl
  have hgl5 := hp5.lt
  have hz7 := Nat.le_trans hz6 hc5.size
  have HO5 := Lib.hid ho5
  have HC5 := Lib.hid hc5
  have H15 := Lib.hid h15
  clear ht ho5 hc5 h15 hp5
  go_wp2_with fail
  refine (n_any _ hp6).mono ?_
  rintro e w8 ht
  obtain ⟨y6, b6, rfl, h16, hc6, hp7, ho6⟩ := ht.one (fun _ => rfl) rfl
  have hgl6 := hp6.lt
  have hz8 := Nat.le_trans hz7 hc6.size
  have HO6 := Lib.hid ho6
  have HC6 := Lib.hid hc6
  have H16 := Lib.hid h16
  clear ht ho6 hc6 h16 hp6
  go_wp2_with fail
  refine (pdigest_any _ hp7).mono ?_
  rintro e w9 ht
  obtain ⟨c7, b7, rfl, h17, hl7, hc7, hp8, ho7⟩ := ht.agg (fun _ => rfl)
  have hl7 : c7.length = 32 := hl7
  have hgl7 := hp7.lt
  have hz9 := Nat.le_trans hz8 hc7.size
  have HO7 := Lib.hid ho7
  have HC7 := Lib.hid hc7
  have H17 := Lib.hid h17
  have HL7 := Lib.hid hl7
  clear hl7
  clear ht ho7 hc7 h17 hp7
  go_wp2_with fail
  refine (int_any _ hp8).mono ?_
  rintro e w10 ht
  obtain ⟨y8, b8, rfl, h18, hc8, hp9, ho8⟩ := ht.one (fun _ => rfl) rfl
  have hgl8 := hp8.lt
  have hz10 := Nat.le_trans hz9 hc8.size
  have HO8 := Lib.hid ho8
  have HC8 := Lib.hid hc8
  have H18 := Lib.hid h18
  clear ht ho8 hc8 h18 hp8
  go_wp2_with fail
  refine (allFact_any _ hp9 (HRL.out _ (by simp))).mono ?_
  rintro e w11 ht
  obtain ⟨y9, b9, rfl, h19, hc9, hp10, ho9⟩ := ht.one (fun _ => rfl) rfl
  have hgl9 := hp9.lt
  have hz11 := Nat.le_trans hz10 hc9.size
  have HO9 := Lib.hid ho9
  have HC9 := Lib.hid hc9
  have H19 := Lib.hid h19
  clear ht ho9 hc9 h19 hp9
  have hbu := run_struct (P := Tryz.prog) (vs := [y0, y1, y2, y3, y4, y5, y6, .agg c7.toArray, y8, y9]) (cs := [[y0], [y1], [y2], [y3], [y4], [y5], [y6], c7, [y8], [y9]]) info_readTx places_readTx ⟨cells_one H10.out, cells_one H11.out, cells_one H12.out, cells_one H13.out, cells_one H14.out, cells_one H15.out, cells_one H16.out, rfl, cells_one H18.out, cells_one H19.out, trivial⟩ (by simp [PlaceOk, HL7.out]) (by simp [HL7.out]) #[(0, y0), (1, y1), (2, y2), (3, y3), (4, y4), (5, y5), (6, y6), (7, .agg c7.toArray), (8, y8), (9, y9)] rfl
  have hone : ∀ v ∈ [[y0], [y1], [y2], [y3], [y4], [y5], [y6], c7, [y8], [y9]].flatten, v.oneCell' = true := by
    intro v hv
    simp only [List.flatten_cons, List.flatten_nil, List.mem_append, List.mem_singleton, List.not_mem_nil, or_false] at hv
    rcases hv with rfl | rfl | rfl | rfl | rfl | rfl | rfl | hv | rfl | rfl
    · exact H10.out
    · exact H11.out
    · exact H12.out
    · exact H13.out
    · exact H14.out
    · exact H15.out
    · exact H16.out
    · exact H17.out v hv
    · exact H18.out
    · exact H19.out
  have HOUT := Lib.hid (show Fs.Out (.cons i64 (.cons u64 (.cons u64 (.cons u64 (.cons u64 (.cons i64 (.cons i64 (.cons .dig (.cons i64 (.cons (.list tFact) .nil)))))))))) w11 (Nw (w.heap.size + 1) w11) [r0, r1, r2, r3, r4, r5, r6, r7, r8, r9] [[y0], [y1], [y2], [y3], [y4], [y5], [y6], c7, [y8], [y9]].flatten bad b9 from by
    have := Fs.Out.step HO0.out (Fs.Out.step HO1.out (Fs.Out.step HO2.out (Fs.Out.step HO3.out (Fs.Out.step HO4.out (Fs.Out.step HO5.out (Fs.Out.step HO6.out (Fs.Out.step HO7.out (Fs.Out.step HO8.out (Fs.Out.step HO9.out (Fs.Out.nil_ w11 _ _) (Chg.refl _ _) hgl9 hz10) HC9.out hgl8 hz9) (HC8.out.trans HC9.out fun b h => .inl h) hgl7 hz8) ((HC7.out.trans HC8.out fun b h => .inl h).trans HC9.out fun b h => .inl h) hgl6 hz7) (((HC6.out.trans HC7.out fun b h => .inl h).trans HC8.out fun b h => .inl h).trans HC9.out fun b h => .inl h) hgl5 hz6) ((((HC5.out.trans HC6.out fun b h => .inl h).trans HC7.out fun b h => .inl h).trans HC8.out fun b h => .inl h).trans HC9.out fun b h => .inl h) hgl4 hz5) (((((HC4.out.trans HC5.out fun b h => .inl h).trans HC6.out fun b h => .inl h).trans HC7.out fun b h => .inl h).trans HC8.out fun b h => .inl h).trans HC9.out fun b h => .inl h) hgl3 hz4) ((((((HC3.out.trans HC4.out fun b h => .inl h).trans HC5.out fun b h => .inl h).trans HC6.out fun b h => .inl h).trans HC7.out fun b h => .inl h).trans HC8.out fun b h => .inl h).trans HC9.out fun b h => .inl h) hgl2 hz3) (((((((HC2.out.trans HC3.out fun b h => .inl h).trans HC4.out fun b h => .inl h).trans HC5.out fun b h => .inl h).trans HC6.out fun b h => .inl h).trans HC7.out fun b h => .inl h).trans HC8.out fun b h => .inl h).trans HC9.out fun b h => .inl h) hgl1 hz2) ((((((((HC1.out.trans HC2.out fun b h => .inl h).trans HC3.out fun b h => .inl h).trans HC4.out fun b h => .inl h).trans HC5.out fun b h => .inl h).trans HC6.out fun b h => .inl h).trans HC7.out fun b h => .inl h).trans HC8.out fun b h => .inl h).trans HC9.out fun b h => .inl h) hgl0 hz1
    simpa using this)
  have HCA := Lib.hid (show Chg (fun k => k = g) w1 w11 from (((((((((HC0.out.trans HC1.out fun b h => .inl h).trans HC2.out fun b h => .inl h).trans HC3.out fun b h => .inl h).trans HC4.out fun b h => .inl h).trans HC5.out fun b h => .inl h).trans HC6.out fun b h => .inl h).trans HC7.out fun b h => .inl h).trans HC8.out fun b h => .inl h).trans HC9.out fun b h => .inl h))
  have hcl : [[y0], [y1], [y2], [y3], [y4], [y5], [y6], c7, [y8], [y9]].flatten.length = 41 := by simp [HL7.out]
  obtain ⟨C, hC⟩ : ∃ C, C = [[y0], [y1], [y2], [y3], [y4], [y5], [y6], c7, [y8], [y9]].flatten := ⟨_, rfl⟩
  rw [← hC] at hbu hone hcl HOUT
  have HBU := Lib.hid hbu
  have HONE := Lib.hid hone
  have HCL := Lib.hid hcl
  have HI := Lib.hid (show (Tryz.prog.info? 72).map (·.size) = some C.length from by rw [hcl]; exact size_readTx)
  have HK2 := Lib.hid (HK.out.chg HCA.out (show ¬ w.heap.size = g from by omega))
  clear hbu hone hcl hC HK HO0 HC0 H10 HO1 HC1 H11 HO2 HC2 H12 HO3 HC3 H13 HO4 HC4 H14 HO5 HC5 H15 HO6 HC6 H16 HO7 HC7 H17 HO8 HC8 H18 HO9 HC9 H19 HL7
  have HP := Lib.hid hp10
  have hgX := hp10.lt
  clear hp10
  have hbu := HBU.out w11
  have HX := Lib.hid (HP.out.parts)
  go_wp2_with (first | (refine wpList_build_ rfl 72 _ rfl #[(0, y0), (1, y1), (2, y2), (3, y3), (4, y4), (5, y5), (6, y6), (7, .agg c7.toArray), (8, y8), (9, y9)] (by simp [Act.eval]) _ hbu ?_) | (refine wpList_store_blk (cs0 := ([.int .i64 0, .int .u64 0, .int .u64 0, .int .u64 0, .int .u64 0, .int .i64 0, .int .i64 0] ++ List.replicate 32 (.int .u8 0) ++ [.int .i64 0, .slice none 0 0] : List Value)) (cs := C) rfl 72 _ _ rfl (Blk.new w11 _ _) rfl rfl (by rw [HCL.out]; rfl) HI.out HONE.out ?_; intro wx hbx hcx; have HBX := Lib.hid hbx; have HCX := Lib.hid hcx; clear hbx hcx))
  obtain ⟨vy, ey, hblk, herr⟩ := HX.out
  have HCX' := Lib.hid (show Chg (fun _ => False) w11 wx from ((Chg.refl _ w11).alloc _).trans HCX.out fun b h => .inr (Nat.le_of_eq h.symm))
  have HGX := Lib.hid (hblk.chg HCX'.out id)
  have HKX := Lib.hid (HK2.out.chg HCX'.out id)
  have HE := Lib.hid herr
  clear hbu hblk herr HX HBU
  refine wp_region_hoist [0, 1, 2, 3, 4] [5] [6] (fun w' => Blk w' w11.heap.size 72 C.toArray ∧ Blk w' g 168 #[vy, ey])
    (by kernel_rfl) (by kernel_rfl) (by kernel_rfl) (by kernel_rfl) (by kernel_rfl) (by kernel_rfl) ⟨HBX.out.drew, HGX.out.drew⟩ ?_
  (refine HoistK.load (by rfl) (by kernel_rfl) 72 _ rfl w11.heap.size 0 rfl C _ (fun w' hw => hw.1.range) Tryz.underlying72 rfl HI.out ?_; simp only [Act.put, setIfInBounds_toArray, getElem_toArray, getElem_cons_zero, set_cons_succ, set_cons_zero])
  iterate 3 (refine HoistK.yes (by rfl) (by kernel_rfl) ⟨?_, fun w' hSw => ?_, ?_⟩; rotate_left; (· go_simp; try with_reducible rfl); simp only [Act.put, setIfInBounds_toArray, getElem_toArray, getElem_cons_succ, getElem_cons_zero, set_cons_succ, set_cons_zero])
  (refine HoistK.yes (by rfl) (by kernel_rfl) ⟨?_, fun w' hSw => ?_, ?_⟩; rotate_left; (· have hcc := hSw.2.cell; go_simp; try with_reducible rfl); simp only [Act.put, setIfInBounds_toArray, getElem_toArray, getElem_cons_succ, getElem_cons_zero, set_cons_succ, set_cons_zero])
  refine HoistK.nil_ ?_
  simp only [opsAt, filterMap_cons, filterMap_nil, getElem?_toArray, getElem?_cons_succ, getElem?_cons_zero]
  refine Effects.cons_ fun _ hQ1 => ?_
  go_wp2_with (refine wpList_store_blk (cs0 := ([.int .i64 0, .int .u64 0, .int .u64 0, .int .u64 0, .int .u64 0, .int .i64 0, .int .i64 0] ++ List.replicate 32 (.int .u8 0) ++ [.int .i64 0, .slice none 0 0] : List Value)) (cs := C) rfl 72 _ _ rfl HKX.out.drew rfl rfl (by rw [HCL.out]; rfl) HI.out HONE.out ?_; intro wy hby hcy; have HBY := Lib.hid hby; have HCY := Lib.hid hcy; clear hby hcy)
  refine hQ1 _ _ ⟨HBX.out.drew.chg HCY.out (fun h => by omega), HGX.out.drew.chg HCY.out (fun h => by omega)⟩ (Effects.nil_ fun _ hQ2 => ?_)
  go_wp2
  have hld := run_loadVar_mid (P := Tryz.prog) wy w.heap.size 0 72 C _ HBY.out.range Tryz.underlying72 rfl HI.out
  refine bodyPost_ret (v := .tuple #[.agg C.toArray, ey]) (by simp [results, Tryz.results61, asAddr, hld]) rfl ?_
  have hcf : Chg (fun b => b = w.heap.size) w11 wy := ((HCX'.out.mono fun _ h => h.elim).drew).trans HCY.out fun b h => .inl h
  exact ReadOut.mk (n := 10) HOUT.out HSS.out rfl HE.out (HB1.out.trans (HCA.out.below HB1.out.size fun b h => by omega)) hcf
end
section
open Go.RowKit Go.Maps
attribute [-simp] Tryz.isAgg36 Tryz.typeInfo36 Tryz.isAgg72 Tryz.typeInfo72
def zFTx : List Value := ([.int .i64 0, .int .u64 0, .int .u64 0, .int .u64 0, .int .u64 0, .int .i64 0, .int .i64 0] ++ List.replicate 32 (.int .u8 0) ++ [.int .i64 0, .slice none 0 0] : List Value)
set_option maxRecDepth 100000 in
theorem one_faceTx : ∀ v ∈ zFTx, v.oneCell' = true := by decide
set_option maxRecDepth 100000 in
theorem len_faceTx : zFTx.length = 41 := by decide
theorem size_faceTx : (Tryz.prog.info? 72).map (·.size) = some zFTx.length := by kernel_rfl
set_option maxHeartbeats 8000000 in
set_option maxRecDepth 100000 in
theorem faceTx_any (w : World) {S : Nat → Prop} {v sent : Value} {bs : List UInt8} (h : Bs w S v bs) (hp : Pk w sent) :
    Calls Tryz.prog 60 #[v, .func (Fn.func 61) #[] #[]] w (FaceOutN tTx zFTx w bs) := by
  obtain ⟨A, cap, rfl⟩ := h.form
  have hal1 := (Below.refl w.heap.size w).alloc (Nat.le_refl _) (.cells (zFTx).toArray 72)
  have hal2 := hal1.alloc (by simp) (.cells (zFTx).toArray 72)
  have hr0 := (Blk.new w 72 (zFTx).toArray).alloc (.cells (zFTx).toArray 72)
  have hz0 := Blk.new (w.alloc (.cells (zFTx).toArray 72)) 72 (zFTx).toArray
  rw [show (w.alloc (.cells (zFTx).toArray 72)).heap.size = w.heap.size + 1 by simp] at hz0
  by_cases hbig : 262144 < bs.length
  · obtain ⟨sb, hsb⟩ : ∃ sb, w.cell? ⟨0, 0, none⟩ = some (.iface 237 (.pointer (some sb))) := by
      obtain ⟨_, _, b, _, _, _, _, _, _, _, _, h, _⟩ := hp
      exact ⟨b, h⟩
    have hgb : ∀ {W : World}, Below w.heap.size w W → W.cell? ⟨0, 0, none⟩ = some (.iface 237 (.pointer (some sb))) := fun hb => cell_low hsb hb
    clear h
    go_enter Tryz.func60, Tryz.ntmps60
    go_wp2_with fail
    have hb := hal2.drew
    have hr : Blk _ _ _ _ := hr0.drew
    have hz : Blk _ _ _ _ := hz0.drew
    clear hal1 hal2 hz0 hsb
    refine wp_region_hoist [0, 1, 2] [3, 4, 5] [6, 7] (fun w' => Blk w' (w.heap.size + 1) 72 (zFTx).toArray ∧ w'.cell? ⟨0, 0, none⟩ = some (.iface 237 (.pointer (some sb)))) (by kernel_rfl) (by kernel_rfl) (by kernel_rfl) (by kernel_rfl) (by kernel_rfl) (by kernel_rfl) ⟨hz, hgb hb⟩ ?_
    (refine HoistK.load (by rfl) (by kernel_rfl) 72 _ rfl (w.heap.size + 1) 0 rfl zFTx _ (fun w' hw => hw.1.range) Tryz.underlying72 rfl size_faceTx ?_; simp only [Act.put, setIfInBounds_toArray, getElem_toArray, getElem_cons_zero, set_cons_succ, set_cons_zero])
    (refine HoistK.yes (by rfl) (by kernel_rfl) ⟨?_, fun w' hSw => ?_, ?_⟩; rotate_left; (· have hcc := hSw.2; go_simp; try with_reducible rfl); simp only [Act.put, setIfInBounds_toArray, getElem_toArray, getElem_cons_succ, getElem_cons_zero, set_cons_succ, set_cons_zero])
    (refine HoistK.yes (by rfl) (by kernel_rfl) ⟨?_, fun w' hSw => ?_, ?_⟩; rotate_left; (· go_simp; try with_reducible rfl); simp only [Act.put, setIfInBounds_toArray, getElem_toArray, getElem_cons_succ, getElem_cons_zero, set_cons_succ, set_cons_zero])
    refine HoistK.nil_ ?_
    simp only [opsAt, filterMap_cons, filterMap_nil, getElem?_toArray, getElem?_cons_succ, getElem?_cons_zero]
    refine Effects.world (F := fun W => Below w.heap.size w W ∧ Blk W w.heap.size 72 (zFTx).toArray ∧ Blk W (w.heap.size + 1) 72 (zFTx).toArray) (fun W hF => ?_) ⟨hb, hr, hz⟩
    clear hb hr hz hr0
    obtain ⟨hb, hr, hz⟩ := hF
    refine Effects.cons_ fun _ hQ => ?_
    have hzl := hz.lt
    go_wp2_with fail
    have hk := Blk.new W 158 #[.string ⟨#[97, 108, 108]⟩, .iface 237 (.pointer (some sb))]
    replace hb := hb.alloc hb.size (.cells #[.string ⟨#[97, 108, 108]⟩, .iface 237 (.pointer (some sb))] 158)
    replace hr := hr.alloc (.cells #[.string ⟨#[97, 108, 108]⟩, .iface 237 (.pointer (some sb))] 158)
    replace hz := hz.alloc (.cells #[.string ⟨#[97, 108, 108]⟩, .iface 237 (.pointer (some sb))] 158)
    obtain ⟨gg, hgg⟩ : ∃ gg, gg = W.heap.size := ⟨_, rfl⟩
    have hgn : gg ≠ w.heap.size := by omega
    rw [← hgg] at hk ⊢
    have HGG := Lib.hid hgg; clear hgg
    generalize W.alloc (.cells #[.string ⟨#[97, 108, 108]⟩, .iface 237 (.pointer (some sb))] 158) = W1 at *
    refine hQ _ _ ⟨hz, hgb hb⟩ (Effects.cons_ fun _ hQ => ?_)
    go_wp2_with fail
    refine hQ _ _ ⟨hz, hgb hb⟩ (Effects.cons_ fun _ hQ => ?_)
    go_wp2_with fail
    refine (told_any (r := true) _ (hp.below hb) ⟨gg, 1, _, rfl, .more hk .last, hgb hb⟩).mono ?_
    rintro e W2 ⟨rfl, hb2⟩
    replace hb := hb.trans (hb2.mono hb.size)
    replace hr := hr.below hb2 hr.lt
    replace hz := hz.below hb2 hz.lt
    replace hk := hk.below hb2 hk.lt
    go_wp2_with fail
    refine hQ _ _ ⟨hz, hgb hb⟩ (Effects.nil_ fun _ hQ => ?_)
    refine wpList_store_blk (cs0 := zFTx) (cs := zFTx) rfl 72 _ _ rfl hr rfl rfl rfl size_faceTx one_faceTx ?_
    intro W3 hr3 hc3
    go_wp2_with fail
    replace hb := hb.trans (hc3.below hb.size fun b h => Nat.le_of_eq h.symm)
    have hld := run_loadVar_mid (P := Tryz.prog) _ w.heap.size 0 72 zFTx _ hr3.range Tryz.underlying72 rfl size_faceTx
    exact bodyPost_ret (v := .tuple #[.agg (zFTx).toArray, .int .i64 4]) (by simp [results, Tryz.results60, asAddr, hld]) rfl ⟨hb, _, 4, rfl, len_faceTx, one_faceTx, .inl ⟨hbig, rfl, rfl⟩⟩
  · have hlen : bs.length ≤ 262144 := by omega
    have HR := Lib.hid (readTx_any _ (h.below hal2) hlen (hp.1.below hal2))
    have HA := Lib.hid hal2
    have HR0 := Lib.hid hr0
    have HZ0 := Lib.hid hz0
    clear h hal1 hal2 hr0 hz0
    go_enter Tryz.func60, Tryz.ntmps60
    go_wp2_with fail
    refine HR.out.mono ?_
    rintro e w2 hro
    obtain ⟨C, err, bd, rfl, h1, hl, hb2, he, ho⟩ := hro.agg (fun _ => rfl)
    have hl : C.length = 41 := hl
    have HL := Lib.hid hl
    have HI := Lib.hid (show (Tryz.prog.info? 72).map (·.size) = some C.length from by rw [hl]; rw [size_faceTx, len_faceTx])
    have H1 := Lib.hid h1
    have HK := Lib.hid (HR0.out.below hb2 HR0.out.lt)
    have HZ := Lib.hid (HZ0.out.below hb2 HZ0.out.lt)
    have hz2 : w.heap.size + 2 ≤ w2.heap.size := by have := hb2.size; simpa using this
    have HB2 := Lib.hid (HA.out.trans (hb2.mono HA.out.size))
    have HO := Lib.hid (show SOut tTx w2 (Nw (w.heap.size + 2) w2) bs C false bd from ho.nw (fun b _ hlt => ⟨hlt, rfl⟩) (by simp))
    have he := he.to (w' := w2) (S' := fun b => w.heap.size + 2 ≤ b) (fun b _ hlt => ⟨hlt, rfl⟩) fun b hb _ => by simpa using hb
    clear hro h1 hl hb2 ho HR HA HR0 HZ0
    rcases he with ⟨rfl, rfl⟩ | ⟨rfl, hch⟩
    · go_wp2_with (first
        | (refine wpList_store_blk (cs0 := zFTx) (cs := C) rfl 72 _ _ rfl (Blk.new w2 _ _) rfl rfl (by rw [HL.out]; exact len_faceTx) HI.out H1.out ?_; intro w3 hb3 hc3; have HB3 := Lib.hid hb3
           have HC3 := Lib.hid (show Chg (fun _ => False) w2 w3 from ((Chg.refl _ w2).alloc _).trans hc3 fun b h => .inr (Nat.le_of_eq h.symm)); clear hb3 hc3
           have HK3 := Lib.hid (HK.out.chg HC3.out id))
        | (refine wpList_load_blk' rfl 72 _ rfl HB3.out rfl Tryz.underlying72 rfl HI.out ?_)
        | (refine wpList_store_blk (cs0 := zFTx) (cs := C) rfl 72 _ _ rfl HK3.out rfl rfl (by rw [HL.out]; exact len_faceTx) HI.out H1.out ?_; intro w9 hb9 hc9; have HB9 := Lib.hid hb9; have HC9 := Lib.hid hc9; clear hb9 hc9))
      have hld := run_loadVar_mid (P := Tryz.prog) w9 w.heap.size 0 72 C _ HB9.out.range Tryz.underlying72 rfl HI.out
      refine bodyPost_ret (v := .tuple #[.agg C.toArray, .int .i64 0]) (by simp [results, Tryz.results60, asAddr, hld]) rfl ?_
      obtain ⟨o1, o2, o3⟩ := HO.out
      have hc29 : Chg (fun b => b = w.heap.size) w2 w9 := (HC3.out.mono (M' := fun b => b = w.heap.size) fun _ h => h.elim).trans HC9.out fun b h => .inl h
      refine ⟨HB2.out.trans (hc29.below HB2.out.size fun b h => Nat.le_of_eq h.symm), C, 0, rfl, o1, o2, .inr ⟨hlen, .inl ?_⟩⟩
      rcases o3 with ⟨x, e1, _, e3⟩ | ⟨_, e2⟩
      · exact ⟨x, e1, rfl, Sh.rep_to (fun b hb hlt => ⟨ltle hlt hc29.size, hc29.block b hlt fun e => by have := hb.1; omega⟩) (fun b hb hlt => hb.to (by omega) (hc29.block b hlt fun e => by have := hb.1; omega)) _ _ _ e3⟩
      · cases e2
    · obtain ⟨gw, rfl⟩ := hch.form
      have HCH := Lib.hid hch; clear hch
      have hno : Sh.dec tTx bs = none := by
        obtain ⟨_, _, o3⟩ := HO.out
        rcases o3 with ⟨x, _, e2, _⟩ | ⟨e1, _⟩
        · cases e2
        · exact e1
      have HNO := Lib.hid hno; clear hno
      go_wp2_with (refine wpList_store_blk (cs0 := zFTx) (cs := C) rfl 72 _ _ rfl (Blk.new w2 _ _) rfl rfl (by rw [HL.out]; exact len_faceTx) HI.out H1.out ?_; intro w3 hb3 hc3; have HC3 := Lib.hid (show Chg (fun _ => False) w2 w3 from ((Chg.refl _ w2).alloc _).trans hc3 fun b h => .inr (Nat.le_of_eq h.symm)); clear hb3 hc3)
      have hr : Blk _ _ _ _ := (HK.out.chg HC3.out id).drew
      have hz : Blk _ _ _ _ := (HZ.out.chg HC3.out id).drew
      have hb := (HB2.out.trans (HC3.out.below HB2.out.size fun b h => h.elim)).drew
      have hch3 := HCH.out.to (w' := w3.drew) (S' := fun b => w.heap.size + 2 ≤ b) (fun b hb hlt => ⟨ltle hlt HC3.out.size, HC3.out.block b hlt id⟩) fun b hb _ => hb
      have hz3 : w.heap.size + 2 ≤ w3.drew.heap.size := Nat.le_trans hz2 HC3.out.size
      refine wp_region_hoist [0, 1] [2] [3, 4] (fun w' => Blk w' (w.heap.size + 1) 72 (zFTx).toArray) (by kernel_rfl) (by kernel_rfl) (by kernel_rfl) (by kernel_rfl) (by kernel_rfl) (by kernel_rfl) hz ?_
      (refine HoistK.load (by rfl) (by kernel_rfl) 72 _ rfl (w.heap.size + 1) 0 rfl zFTx _ (fun w' hw => hw.range) Tryz.underlying72 rfl size_faceTx ?_; simp only [Act.put, setIfInBounds_toArray, getElem_toArray, getElem_cons_zero, set_cons_succ, set_cons_zero])
      (refine HoistK.yes (by rfl) (by kernel_rfl) ⟨?_, fun w' hSw => ?_, ?_⟩; rotate_left; (· go_simp; try with_reducible rfl); simp only [Act.put, setIfInBounds_toArray, getElem_toArray, getElem_cons_succ, getElem_cons_zero, set_cons_succ, set_cons_zero])
      refine HoistK.nil_ ?_
      simp only [opsAt, filterMap_cons, filterMap_nil, getElem?_toArray, getElem?_cons_succ, getElem?_cons_zero]
      refine Effects.world (F := fun W => Below w.heap.size w W ∧ Blk W w.heap.size 72 (zFTx).toArray ∧ Blk W (w.heap.size + 1) 72 (zFTx).toArray ∧ Chain W (fun b => w.heap.size + 2 ≤ b) sent (.iface 154 (.pointer (some ⟨gw, 0, none⟩)))) (fun W hF => ?_) ⟨hb, hr, hz, hch3⟩
      clear hb hr hz hch3 hz3
      obtain ⟨hb, hr, hz, hch⟩ := hF
      refine Effects.cons_ fun _ hQ => ?_
      go_wp2_with fail
      refine (told_any (r := false) _ (hp.below hb) (Wr.of_chain hch)).mono ?_
      rintro e W2 ⟨rfl, hb2⟩
      replace hb := hb.trans (hb2.mono hb.size)
      replace hr := hr.below hb2 hr.lt
      replace hz := hz.below hb2 hz.lt
      go_wp2_with fail
      refine hQ _ _ hz (Effects.nil_ fun _ hQ => ?_)
      refine wpList_store_blk (cs0 := zFTx) (cs := zFTx) rfl 72 _ _ rfl hr rfl rfl rfl size_faceTx one_faceTx ?_
      intro W3 hr3 hc3
      go_wp2_with fail
      replace hb := hb.trans (hc3.below hb.size fun b h => Nat.le_of_eq h.symm)
      have hld := run_loadVar_mid (P := Tryz.prog) _ w.heap.size 0 72 zFTx _ hr3.range Tryz.underlying72 rfl size_faceTx
      exact bodyPost_ret (v := .tuple #[.agg (zFTx).toArray, .int .i64 5]) (by simp [results, Tryz.results60, asAddr, hld]) rfl ⟨hb, _, 5, rfl, len_faceTx, one_faceTx, .inr ⟨hlen, .inr ⟨HNO.out, rfl, rfl⟩⟩⟩
set_option maxHeartbeats 4000000 in
set_option maxRecDepth 100000 in
theorem ReadTx_anyN (w : World) {S : Nat → Prop} {v sent : Value} {bs : List UInt8} (h : Bs w S v bs) (hp : Pk w sent) :
    Calls Tryz.prog 22 #[v] w (FaceOutN tTx zFTx w bs) := by
  have hal1 := (Below.refl w.heap.size w).alloc (Nat.le_refl _) (.cells (zFTx).toArray 72)
  have HF := Lib.hid (faceTx_any _ (h.below hal1) (hp.below hal1))
  have HR := Lib.hid (Blk.new w 72 (zFTx).toArray)
  have HA := Lib.hid hal1
  obtain ⟨A, cap, rfl⟩ := h.form
  clear h hp hal1
  go_enter Tryz.func22, Tryz.ntmps22
  go_wp2_with fail
  refine HF.out.mono ?_
  rintro e w1 ⟨hb, C, n, rfl, hl, h1, hn⟩
  have hl : C.length = 41 := hl
  have HL := Lib.hid hl
  have HI := Lib.hid (show (Tryz.prog.info? 72).map (·.size) = some C.length from by rw [hl]; rw [size_faceTx, len_faceTx])
  have H1 := Lib.hid h1
  have hlz : (zFTx).length = C.length := by rw [hl, len_faceTx]
  have HLZ := Lib.hid hlz
  have HK := Lib.hid (HR.out.below hb (by simp))
  have HB := Lib.hid hb
  have HN := Lib.hid hn
  have hz1 : w.heap.size + 1 ≤ w1.heap.size := by have := hb.size; simpa using this
  clear hl h1 hlz hb hn HF HR
  go_wp2_with (refine wpList_store_blk (cs0 := zFTx) (cs := C) rfl 72 _ _ rfl HK.out rfl rfl HLZ.out HI.out H1.out ?_; intro w9 hb9 hc9; have HB9 := Lib.hid hb9; have HC9 := Lib.hid hc9; clear hb9 hc9)
  have hld := run_loadVar_mid (P := Tryz.prog) w9 w.heap.size 0 72 C _ HB9.out.range Tryz.underlying72 rfl HI.out
  refine bodyPost_ret (v := .tuple #[.agg C.toArray, .int .i64 n]) (by simp [results, Tryz.results22, asAddr, hld]) rfl ?_
  have hbw := HA.out.trans (HB.out.mono HA.out.size)
  refine ⟨hbw.trans (HC9.out.below hbw.size fun b h => Nat.le_of_eq h.symm), C, n, rfl, HL.out, H1.out, HN.out.imp id fun ⟨q1, q2⟩ => ⟨q1, q2.imp (fun ⟨x, e1, e2, e3⟩ => ⟨x, e1, e2, ?_⟩) id⟩⟩
  exact Sh.rep_to (fun b hb hlt => ⟨ltle hlt HC9.out.size, HC9.out.block b hlt fun e => by have hb := hb.1; simp at hb; omega⟩) (fun b hb hlt => hb.to (by simp) (HC9.out.block b hlt fun e => by have hb := hb.1; simp at hb; omega)) _ _ _ e3
theorem ReadTx_any (w : World) {S : Nat → Prop} {v sent : Value} {bs : List UInt8} (h : Bs w S v bs) (hp : Pk w sent) :
    Calls Tryz.prog 22 #[v] w (FaceOut tTx w bs) :=
  (ReadTx_anyN w h hp).mono fun _ _ h => h.weak
end
section
open Go.RowKit Go.Maps
attribute [-simp] Tryz.isAgg36 Tryz.typeInfo36 Tryz.isAgg61 Tryz.typeInfo61
set_option maxHeartbeats 8000000 in
set_option maxRecDepth 100000 in
theorem rTx_any (w : World) {S : Nat → Prop} {x : tTx.El} {cs : List Value} (h : tTx.rep w S x cs) (hl : (tTx.enc x).length ≤ 1099511627776) :
    Calls Tryz.prog 24 #[.agg cs.toArray] w fun e w' => ∃ v', e = .returned v' ∧ Fresh w w' v' (tTx.enc x) := by
  obtain ⟨x0, x1, x2, x3, x4, x5, x6, x7, x8, x9, _⟩ := x
  obtain ⟨c0, _, rfl, ⟨rfl, _⟩, c1, _, rfl, ⟨rfl, q1⟩, c2, _, rfl, ⟨rfl, q2⟩, c3, _, rfl, ⟨rfl, q3⟩, c4, _, rfl, ⟨rfl, q4⟩, c5, _, rfl, ⟨rfl, _⟩, c6, _, rfl, ⟨rfl, _⟩, c7, _, rfl, ⟨rfl, l7⟩, c8, _, rfl, ⟨rfl, _⟩, c9, _, rfl, r9, rfl⟩ := h
  obtain ⟨y9, rfl⟩ : ∃ y, c9 = [y] := by obtain ⟨v, _, e, _⟩ := r9; exact ⟨v, e⟩
  obtain ⟨A9, cap9, rfl, hlen9, _⟩ := list_at r9
  have Q1 := Lib.hid q1; clear q1
  have Q2 := Lib.hid q2; clear q2
  have Q3 := Lib.hid q3; clear q3
  have Q4 := Lib.hid q4; clear q4
  have R9 := Lib.hid r9; clear r9
  simp only [nk_t, nk_f]
  obtain ⟨C, hC⟩ : ∃ C, C = [Value.int .i64 x0] ++ ([Value.int .u64 x1] ++ ([Value.int .u64 x2] ++ ([Value.int .u64 x3] ++ ([Value.int .u64 x4] ++ ([Value.int .i64 x5] ++ ([Value.int .i64 x6] ++ (u8s x7 ++ ([Value.int .i64 x8] ++ ([Value.slice A9 (List.length (α := (tFact).El) x9) cap9] ++ ([])))))))))) := ⟨_, rfl⟩
  rw [← hC]
  have hf : ∀ w', Blk w' w.heap.size 72 C.toArray → w'.cell? ⟨w.heap.size, 0, none⟩ = some (.int .i64 x0) ∧ w'.cell? ⟨w.heap.size, 1, none⟩ = some (.int .u64 x1) ∧ w'.cell? ⟨w.heap.size, 2, none⟩ = some (.int .u64 x2) ∧ w'.cell? ⟨w.heap.size, 3, none⟩ = some (.int .u64 x3) ∧ w'.cell? ⟨w.heap.size, 4, none⟩ = some (.int .u64 x4) ∧ w'.cell? ⟨w.heap.size, 5, none⟩ = some (.int .i64 x5) ∧ w'.cell? ⟨w.heap.size, 6, none⟩ = some (.int .i64 x6) ∧ w'.rangeAt w.heap.size 7 (u8s x7) ∧ w'.cell? ⟨w.heap.size, 39, none⟩ = some (.int .i64 x8) ∧ w'.cell? ⟨w.heap.size, 40, none⟩ = some (.slice A9 (List.length (α := (tFact).El) x9) cap9) := fun w' hb => by
    have := hb.lies [[Value.int .i64 x0], [Value.int .u64 x1], [Value.int .u64 x2], [Value.int .u64 x3], [Value.int .u64 x4], [Value.int .i64 x5], [Value.int .i64 x6], u8s x7, [Value.int .i64 x8], [Value.slice A9 (List.length (α := (tFact).El) x9) cap9]] [] (by rw [hC]; simp)
    simp only [Lies, u8s_length, l7, List.length_cons, List.length_nil] at this
    obtain ⟨s0, s1, s2, s3, s4, s5, s6, s7, s8, s9, _⟩ := this
    exact ⟨Lies.one s0, Lies.one s1, Lies.one s2, Lies.one s3, Lies.one s4, Lies.one s5, Lies.one s6, s7, Lies.one s8, Lies.one s9⟩
  have HF := Lib.hid hf
  clear hf hC
  have L7 := Lib.hid l7; clear l7
  have hl' : (joinB [numB x0, numB x1, numB x2, numB x3, numB x4, numB x5, numB x6, x7, numB x8, (Sh.list tFact).enc x9]).length ≤ 1099511627776 := hl
  have HLL := Lib.hid hl'
  clear hl hl'
  have HE9 := Lib.hid (show ((Sh.list tFact).enc x9).length ≤ 1099511627776 from (by have h1 := HLL.out; rw [joinB_length] at h1; have h2 := joinP_mem (l := [numB x0, numB x1, numB x2, numB x3, numB x4, numB x5, numB x6, x7, numB x8, (Sh.list tFact).enc x9]) (x := (Sh.list tFact).enc x9) (by simp); omega))
  have hcn9 : (List.length (α := (tFact).El) x9) ≤ 137438953472 := by
    have h1 := HE9.out
    have h2 := joinP_count (List.map (tFact).enc x9)
    have h3 : ((Sh.list tFact).enc x9).length = 8 + (joinP (List.map (tFact).enc x9)).length := joinB_length _
    rw [List.length_map] at h2
    omega
  have HEJ9 := Lib.hid (show (joinB (List.map (tFact).enc x9)).length ≤ 140737488355328 from by
    have h1 := HE9.out
    have h3 : ((Sh.list tFact).enc x9).length = 8 + (joinP (List.map (tFact).enc x9)).length := joinB_length _
    rw [joinB_length]
    omega)
  go_enter Tryz.func24, Tryz.ntmps24
  go_wp2_with fail
  have hbe := (Below.refl w.heap.size w).alloc (Nat.le_refl _) (.cells C.toArray 72)
  have hal0 : Below (w.heap.size + 1) (w.alloc (.cells C.toArray 72)) ((w.alloc (.cells C.toArray 72)).alloc (.cells #[] 22)) := (Below.refl _ _).alloc (by simp) _
  have hMb : w.heap.size < w.heap.size + 1 := by omega
  go_loopw [3, 4] (fun o i wr => ∃ k : Nat, k ≤ (List.length (α := (tFact).El) x9) ∧ i = .int .i64 k ∧ Bss wr (fun b => (w.heap.size + 1) ≤ b) (fun b => (w.heap.size + 1) ≤ b) o ((List.take k x9).map (tFact).enc) ∧ Below w.heap.size w wr ∧ (w.heap.size + 1) ≤ wr.heap.size ∧ Blk wr w.heap.size 72 C.toArray) (fun _ i _ => (List.length (α := (tFact).El) x9) - (intOf i).toNat)
  case atStart => exact ⟨0, Nat.zero_le _, rfl, Bss.empty1 w _, hbe.alloc (by simp) _, by simp, ((Blk.new w _ _).alloc _)⟩
  case round =>
    obtain ⟨k, hk, rfl, hB, hbl, hMz, hbox⟩ := hrel
    by_cases hlt : k < (List.length (α := (tFact).El) x9)
    · obtain ⟨R, hR⟩ : ∃ R, R = (List.take k x9).map (tFact).enc := ⟨_, rfl⟩
      rw [← hR] at hB
      have hRl : R.length = k := by rw [hR, List.length_map, List.length_take]; omega
      have hnext : (List.take (k + 1) x9).map (tFact).enc = R ++ [(tFact).enc (x9[k]'hlt)] := by rw [List.take_succ_eq_append_getElem hlt, List.map_append, ← hR]; rfl
      obtain ⟨Aa, ca, rfl⟩ := hB.form
      obtain ⟨_, _, e, _, hat⟩ := list_at (Sh.rep_below R9.out hbl)
      injection e with e1 e2 e3
      subst e1 e3
      obtain ⟨b, off, c, rfl, hca, hr, hcl, hblt, _⟩ := hat k hlt
      obtain ⟨x, hx⟩ : ∃ x, x = x9[k]'hlt := ⟨_, rfl⟩
      rw [← hx] at hr hnext
      have hsm2 : ((tFact).enc x).length ≤ 1099511627776 := by
        have h1 := joinP_mem (List.mem_map.2 ⟨x9[k]'hlt, List.getElem_mem hlt, rfl⟩ : (tFact).enc (x9[k]'hlt) ∈ List.map (tFact).enc x9)
        have h2 := HE9.out
        have h3 : ((Sh.list tFact).enc x9).length = 8 + (joinP (List.map (tFact).enc x9)).length := joinB_length _
        rw [hx]; omega
      have hinfo : (Tryz.prog.info? 61).map (·.size) = some c.length := by rw [hcl]; kernel_rfl
      have HCA := Lib.hid (show wr.rangeAt b (off + k * 73) c from hca)
      have HI := Lib.hid hinfo
      clear hinfo
      have HREP := Lib.hid hr
      have HSM := Lib.hid hsm2
      clear hr hsm2
      have hown : ∀ k, (Value.slice Aa R.length ca).ownBlock = some k → k < wr.heap.size := fun k hk => by obtain ⟨vs, ho, _⟩ := hB; exact own_lt ho hk
      have hbc := (HF.out wr hbox).2.2.2.2.2.2.2.2.2
      have HB := Lib.hid hB
      have HN := Lib.hid hnext
      have HRL := Lib.hid hRl
      have HOWN := Lib.hid hown
      have HBOX := Lib.hid hbox
      clear hB hca hcl hat hx hR hnext hRl hown hbox
      go_wp2_with (refine wpList_load_mid rfl 61 _ rfl b (off + k * 73) rfl c _ HCA.out Tryz.underlying61 rfl HI.out ?_)
      refine (rFact_any _ HREP.out HSM.out).mono ?_
      rintro e w1 ⟨v1, rfl, f1⟩
      have hb1 := hbl.trans (f1.2.mono hbl.size)
      obtain ⟨y, hy⟩ : ∃ y, y = (tFact).enc x := ⟨_, rfl⟩
      have f1 : Fresh wr w1 v1 y := hy ▸ f1
      rw [← hy] at HN
      obtain ⟨A1, c1, rfl⟩ := f1.1.form
      obtain ⟨vs, ho, hS, hr⟩ := HB.out.below f1.2
      have hsz1 := f1.2.size
      have hal : Below w1.heap.size w1 (w1.alloc (.cells #[.slice A1 y.length c1] 22)) := (Below.refl _ w1).alloc (Nat.le_refl _) _
      have HAL := Lib.hid hal
      have HO := Lib.hid (show Own (w1.alloc (.cells #[.slice A1 y.length c1] 22)) _ _ _ _ _ from own_keep ho fun k hk => hal.block k (own_lt ho hk))
      have HS := Lib.hid hS
      have HR := Lib.hid (fun i x u h1 h2 => (hr i x u h1 h2).below hal)
      have HU := Lib.hid ((f1.1.1.below hal).sub (T := fun b => (w.heap.size + 1) ≤ b ∧ (Value.slice Aa R.length ca).ownBlock ≠ some b) fun b hb _ => ⟨Nat.le_trans hMz hb.1, fun e => by have := HOWN.out b e; omega⟩)
      have HS2 := Lib.hid (Cs.of_new w1 22 (size := 1) 1 (cs := [.slice A1 y.length c1]) rfl (by simp only [maxLen]; decide))
      have H63 := Lib.hid (show R.length + 1 ≤ maxLen ∧ (R.length + 1) * 24 ≤ 140737488355328 from by have := HRL.out; refine ⟨by simp only [maxLen]; omega, by omega⟩)
      have HF2 := Lib.hid f1.2
      clear ho hS hr hal f1 hy
      go_wp2_with (at_builtin; refine wpList_app _ rfl _ _ _ rfl Tryz.underlying121 info_row rfl (by decide) HO.out rfl HS2.out rfl (by simp [Value.oneCell']) H63.out.1 H63.out.2 ?_; intro v3 w3 ho3 hg3 hnil3 hat3; clear hnil3; have HO3 := Lib.hid ho3; clear ho3; have HG3 := Lib.hid hg3; clear hg3; have HAT3 := Lib.hid hat3; clear hat3)
      have hzz := HAL.out.size
      have hz3 := HG3.out.size
      have hpush := Bss.push HO.out HS.out HR.out HU.out HO3.out HG3.out HAT3.out (by have := hb1.size; omega)
      rw [← HN.out] at hpush
      have hbA : Below w.heap.size w (w1.alloc (.cells #[.slice A1 y.length c1] 22)) := hb1.trans (HAL.out.mono hb1.size)
      have hbw3 := HF2.out.trans (HAL.out.mono hsz1)
      refine ⟨⟨k + 1, by omega, by push_cast; rfl, hpush, hbA.trans (HG3.out.below hbA.size fun b h => by have h1 := HS.out b h; have h2 := HBOX.out.lt; omega), by omega, (HBOX.out.below hbw3 HBOX.out.lt).chg HG3.out fun h => by have h1 := HS.out _ h; have h2 := hMb; omega⟩, ?_⟩
      simp only [intOf]
      omega
    · have hk' : k = (List.length (α := (tFact).El) x9) := by omega
      rw [hk', List.take_length] at hB
      have hsm : ∀ x ∈ List.map (tFact).enc x9, x.length ≤ 140737488355328 := fun x hx => by
        have h1 := joinP_mem hx
        have h2 := HE9.out
        have h3 : ((Sh.list tFact).enc x9).length = 8 + (joinP (List.map (tFact).enc x9)).length := joinB_length _
        omega
      have hEJ9 := HEJ9.out
      obtain ⟨R9m, hR9m⟩ : ∃ R, R = List.map (tFact).enc x9 := ⟨_, rfl⟩
      rw [← hR9m] at hB hsm hEJ9
      have HRm9 := Lib.hid hR9m
      have HEK9 := Lib.hid hEJ9
      clear hR9m hEJ9
      have V9 := Lib.hid (((hB.read hsm).lt_ (T := fun _ => True) fun _ _ => trivial).subs (T := fun b => b < wr.heap.size) fun b hb _ => hb.2)
      obtain ⟨Ao9, co9, rfl⟩ := hB.form
      have hbc9 := (HF.out wr hbox).2.2.2.2.2.2.2.2.2
      clear hB hsm
      obtain ⟨w_9, hw_9⟩ : ∃ w', w' = wr := ⟨_, rfl⟩
      subst hw_9
      have HBX9 := Lib.hid hbox; have hmb9 := hbox.lt; clear hbox
      go_wp2_with fail
      clear hlt hk hk'
      have hsz := HBX9.out.lt
      have hb0 : Blk w_9.drew w.heap.size 72 C.toArray := HBX9.out.drew
      have hbw : Below w.heap.size w w_9.drew := (hbl).drew
      have D7 := Lib.hid (Bs.of_range32 (S := fun b => b = w.heap.size) rfl hb0.lt ((HF.out _ hb0).2.2.2.2.2.2.2.1) L7.out)
      refine wp_region_hoist [0, 1, 2, 4, 5, 7, 8, 10, 11, 13, 14, 16, 17, 18, 20, 21, 22, 24, 25, 26, 27, 28, 30] [3, 6, 9, 12, 15, 19, 23, 29, 31] [32, 33, 34] (fun w' => Blk w' w.heap.size 72 C.toArray)
        (by kernel_rfl) (by kernel_rfl) (by kernel_rfl) (by kernel_rfl) (by kernel_rfl) (by kernel_rfl) hb0 ?_
      (refine HoistK.yes (by rfl) (by kernel_rfl) ⟨?_, fun w' hSw => ?_, ?_⟩; rotate_left; (· go_simp; try with_reducible rfl); simp only [Act.put, setIfInBounds_toArray, getElem_toArray, getElem_cons_zero, set_cons_succ, set_cons_zero])
      (refine HoistK.yes (by rfl) (by kernel_rfl) ⟨?_, fun w' hSw => ?_, ?_⟩; rotate_left; (· obtain ⟨s0, s1, s2, s3, s4, s5, s6, s7, s8, s9⟩ := HF.out _ hSw; go_simp; try with_reducible rfl); simp only [Act.put, setIfInBounds_toArray, getElem_toArray, getElem_cons_succ, getElem_cons_zero, set_cons_succ, set_cons_zero])
      iterate 2 (refine HoistK.yes (by rfl) (by kernel_rfl) ⟨?_, fun w' hSw => ?_, ?_⟩; rotate_left; (· go_simp; try with_reducible rfl); simp only [Act.put, setIfInBounds_toArray, getElem_toArray, getElem_cons_succ, getElem_cons_zero, set_cons_succ, set_cons_zero])
      (refine HoistK.yes (by rfl) (by kernel_rfl) ⟨?_, fun w' hSw => ?_, ?_⟩; rotate_left; (· obtain ⟨s0, s1, s2, s3, s4, s5, s6, s7, s8, s9⟩ := HF.out _ hSw; go_simp; try with_reducible rfl); simp only [Act.put, setIfInBounds_toArray, getElem_toArray, getElem_cons_succ, getElem_cons_zero, set_cons_succ, set_cons_zero])
      (refine HoistK.yes (by rfl) (by kernel_rfl) ⟨?_, fun w' hSw => ?_, ?_⟩; rotate_left; (· go_simp; try with_reducible rfl); simp only [Act.put, setIfInBounds_toArray, getElem_toArray, getElem_cons_succ, getElem_cons_zero, set_cons_succ, set_cons_zero])
      (refine HoistK.yes (by rfl) (by kernel_rfl) ⟨?_, fun w' hSw => ?_, ?_⟩; rotate_left; (· obtain ⟨s0, s1, s2, s3, s4, s5, s6, s7, s8, s9⟩ := HF.out _ hSw; go_simp; try with_reducible rfl); simp only [Act.put, setIfInBounds_toArray, getElem_toArray, getElem_cons_succ, getElem_cons_zero, set_cons_succ, set_cons_zero])
      (refine HoistK.yes (by rfl) (by kernel_rfl) ⟨?_, fun w' hSw => ?_, ?_⟩; rotate_left; (· go_simp; try with_reducible rfl); simp only [Act.put, setIfInBounds_toArray, getElem_toArray, getElem_cons_succ, getElem_cons_zero, set_cons_succ, set_cons_zero])
      (refine HoistK.yes (by rfl) (by kernel_rfl) ⟨?_, fun w' hSw => ?_, ?_⟩; rotate_left; (· obtain ⟨s0, s1, s2, s3, s4, s5, s6, s7, s8, s9⟩ := HF.out _ hSw; go_simp; try with_reducible rfl); simp only [Act.put, setIfInBounds_toArray, getElem_toArray, getElem_cons_succ, getElem_cons_zero, set_cons_succ, set_cons_zero])
      (refine HoistK.yes (by rfl) (by kernel_rfl) ⟨?_, fun w' hSw => ?_, ?_⟩; rotate_left; (· go_simp; try with_reducible rfl); simp only [Act.put, setIfInBounds_toArray, getElem_toArray, getElem_cons_succ, getElem_cons_zero, set_cons_succ, set_cons_zero])
      (refine HoistK.yes (by rfl) (by kernel_rfl) ⟨?_, fun w' hSw => ?_, ?_⟩; rotate_left; (· obtain ⟨s0, s1, s2, s3, s4, s5, s6, s7, s8, s9⟩ := HF.out _ hSw; go_simp; try with_reducible rfl); simp only [Act.put, setIfInBounds_toArray, getElem_toArray, getElem_cons_succ, getElem_cons_zero, set_cons_succ, set_cons_zero])
      (refine HoistK.yes (by rfl) (by kernel_rfl) ⟨?_, fun w' hSw => ?_, ?_⟩; rotate_left; (· go_simp; try with_reducible rfl); simp only [Act.put, setIfInBounds_toArray, getElem_toArray, getElem_cons_succ, getElem_cons_zero, set_cons_succ, set_cons_zero])
      (refine HoistK.yes (by rfl) (by kernel_rfl) ⟨?_, fun w' hSw => ?_, ?_⟩; rotate_left; (· obtain ⟨s0, s1, s2, s3, s4, s5, s6, s7, s8, s9⟩ := HF.out _ hSw; go_simp; try with_reducible rfl); simp only [Act.put, setIfInBounds_toArray, getElem_toArray, getElem_cons_succ, getElem_cons_zero, set_cons_succ, set_cons_zero])
      iterate 2 (refine HoistK.yes (by rfl) (by kernel_rfl) ⟨?_, fun w' hSw => ?_, ?_⟩; rotate_left; (· go_simp; try with_reducible rfl); simp only [Act.put, setIfInBounds_toArray, getElem_toArray, getElem_cons_succ, getElem_cons_zero, set_cons_succ, set_cons_zero])
      (refine HoistK.yes (by rfl) (by kernel_rfl) ⟨?_, fun w' hSw => ?_, ?_⟩; rotate_left; (· obtain ⟨s0, s1, s2, s3, s4, s5, s6, s7, s8, s9⟩ := HF.out _ hSw; go_simp; try with_reducible rfl); simp only [Act.put, setIfInBounds_toArray, getElem_toArray, getElem_cons_succ, getElem_cons_zero, set_cons_succ, set_cons_zero])
      iterate 4 (refine HoistK.yes (by rfl) (by kernel_rfl) ⟨?_, fun w' hSw => ?_, ?_⟩; rotate_left; (· go_simp; try with_reducible rfl); simp only [Act.put, setIfInBounds_toArray, getElem_toArray, getElem_cons_succ, getElem_cons_zero, set_cons_succ, set_cons_zero])
      (refine HoistK.yes (by rfl) (by kernel_rfl) ⟨?_, fun w' hSw => ?_, ?_⟩; rotate_left; (· obtain ⟨s0, s1, s2, s3, s4, s5, s6, s7, s8, s9⟩ := HF.out _ hSw; go_simp; try with_reducible rfl); simp only [Act.put, setIfInBounds_toArray, getElem_toArray, getElem_cons_succ, getElem_cons_zero, set_cons_succ, set_cons_zero])
      iterate 2 (refine HoistK.yes (by rfl) (by kernel_rfl) ⟨?_, fun w' hSw => ?_, ?_⟩; rotate_left; (· go_simp; try with_reducible rfl); simp only [Act.put, setIfInBounds_toArray, getElem_toArray, getElem_cons_succ, getElem_cons_zero, set_cons_succ, set_cons_zero])
      refine HoistK.nil_ ?_
      simp only [opsAt, filterMap_cons, filterMap_nil, getElem?_toArray, getElem?_cons_succ, getElem?_cons_zero]
      have g0 : Got w_9.drew w_9.drew [] [] := Got.start (Below.refl _ _)
      refine Effects.cons_ fun _ hQ1 => ?_
      go_wp2_with fail
      refine (rNumI_any _ _).mono ?_
      rintro e u1 ⟨v1, rfl, f1⟩
      have g1 := g0.step f1
      have hb1 := hb0.below f1.2 hb0.lt
      clear f1
      go_wp2_with fail
      refine hQ1 _ _ hb1 (Effects.cons_ fun _ hQ2 => ?_)
      clear hQ1 hb0 g0
      go_wp2_with fail
      refine (rNumU_any _ _ Q1.out).mono ?_
      rintro e u2 ⟨v2, rfl, f2⟩
      have g2 := g1.step f2
      have hb2 := hb1.below f2.2 hb1.lt
      clear f2
      go_wp2_with fail
      refine hQ2 _ _ hb2 (Effects.cons_ fun _ hQ3 => ?_)
      clear hQ2 hb1 g1
      go_wp2_with fail
      refine (rNumU_any _ _ Q2.out).mono ?_
      rintro e u3 ⟨v3, rfl, f3⟩
      have g3 := g2.step f3
      have hb3 := hb2.below f3.2 hb2.lt
      clear f3
      go_wp2_with fail
      refine hQ3 _ _ hb3 (Effects.cons_ fun _ hQ4 => ?_)
      clear hQ3 hb2 g2
      go_wp2_with fail
      refine (rNumU_any _ _ Q3.out).mono ?_
      rintro e u4 ⟨v4, rfl, f4⟩
      have g4 := g3.step f4
      have hb4 := hb3.below f4.2 hb3.lt
      clear f4
      go_wp2_with fail
      refine hQ4 _ _ hb4 (Effects.cons_ fun _ hQ5 => ?_)
      clear hQ4 hb3 g3
      go_wp2_with fail
      refine (rNumU_any _ _ Q4.out).mono ?_
      rintro e u5 ⟨v5, rfl, f5⟩
      have g5 := g4.step f5
      have hb5 := hb4.below f5.2 hb4.lt
      clear f5
      go_wp2_with fail
      refine hQ5 _ _ hb5 (Effects.cons_ fun _ hQ6 => ?_)
      clear hQ5 hb4 g4
      go_wp2_with fail
      refine (rNumI_any _ _).mono ?_
      rintro e u6 ⟨v6, rfl, f6⟩
      have g6 := g5.step f6
      have hb6 := hb5.below f6.2 hb5.lt
      clear f6
      go_wp2_with fail
      refine hQ6 _ _ hb6 (Effects.cons_ fun _ hQ7 => ?_)
      clear hQ6 hb5 g5
      go_wp2_with fail
      refine (rNumI_any _ _).mono ?_
      rintro e u7 ⟨v7, rfl, f7⟩
      have g7 := g6.step f7
      have hb7 := hb6.below f7.2 hb6.lt
      clear f7
      go_wp2_with fail
      refine hQ7 _ _ hb7 (Effects.cons_ fun _ hQ8 => ?_)
      clear hQ7 hb6 g6
      have g8 := g7.old D7.out
      clear g7
      go_wp2_with fail
      refine (rNumI_any _ _).mono ?_
      rintro e u8 ⟨v9, rfl, f8⟩
      have g9 := g8.step f8
      have hb8 := hb7.below f8.2 hb7.lt
      clear f8
      go_wp2_with fail
      refine hQ8 _ _ hb8 (Effects.cons_ fun _ hQ9 => ?_)
      clear hQ8 hb7 g8
      go_wp2_with fail
      refine (rJoin_any _ (V9.out.drew_.below g9.1) HEK9.out (fun b hb => ltle hb g9.1.size)).mono ?_
      rintro e u9 ⟨v10, rfl, f9⟩
      rw [HRm9.out] at f9
      have f9 : Fresh _ _ _ ((Sh.list tFact).enc x9) := f9
      have g10 := g9.step f9
      have hb9 := hb8.below f9.2 hb8.lt
      clear f9
      go_wp2_with fail
      refine hQ9 _ _ hb9 (Effects.nil_ fun _ hQ10 => ?_)
      clear hQ9 hb8 g9
      have hcs : ∀ v ∈ [v1, v2, v3, v4, v5, v6, v7, (.slice (some ⟨w.heap.size, 7, none⟩) 32 32), v9, v10], v.cells = #[v] := fun v hv => by
        obtain ⟨i, hi, rfl⟩ := List.getElem_of_mem hv
        obtain ⟨y, _, hr⟩ := g10.2.get i hi
        obtain ⟨A, c, e⟩ := hr.form
        have e' : [v1, v2, v3, v4, v5, v6, v7, (.slice (some ⟨w.heap.size, 7, none⟩) 32 32), v9, v10][i] = .slice A y.length c := e
        rw [e']; rfl
      refine wpList_rows rfl 10 _ rfl [v1, v2, v3, v4, v5, v6, v7, (.slice (some ⟨w.heap.size, 7, none⟩) 32 32), v9, v10] rfl (by decide) (by decide) hcs (by simp [Act.eval]) ?_
      have hr : Bsr (u9.alloc (.cells [v1, v2, v3, v4, v5, v6, v7, (.slice (some ⟨w.heap.size, 7, none⟩) 32 32), v9, v10].toArray 22)) (fun b => b < u9.heap.size + 1) (.slice (some ⟨u9.heap.size, 0, none⟩) 10 10) [numB x0, numB x1, numB x2, numB x3, numB x4, numB x5, numB x6, x7, numB x8, (Sh.list tFact).enc x9] := g10.row (by simp [maxLen]) 22
      have hj := rJoin_any _ hr (by have := HLL.out; omega) (fun b hb => by simpa using hb)
      have hbb : Below w.heap.size w (u9.alloc (.cells [v1, v2, v3, v4, v5, v6, v7, (.slice (some ⟨w.heap.size, 7, none⟩) 32 32), v9, v10].toArray 22)) := (hbw.trans (g10.1.mono hbw.size)).alloc (hbw.trans (g10.1.mono hbw.size)).size _
      have HJ := Lib.hid hj
      have HBB := Lib.hid hbb
      clear hj hbb hr g10 hcs
      go_wp2_with fail
      refine HJ.out.mono ?_
      rintro e uz ⟨vz, rfl, fz⟩
      go_wp2_with fail
      go_ret
      exact ⟨vz, rfl, fz.1.sub fun b hb _ => ⟨Nat.le_trans HBB.out.size hb.1, hb.2⟩, HBB.out.trans (fz.2.mono HBB.out.size)⟩
end
section
open Go.RowKit Go.Maps
attribute [-simp] Tryz.isAgg36 Tryz.typeInfo36 Tryz.isAgg61 Tryz.typeInfo61 Tryz.isAgg72 Tryz.typeInfo72
def zrTx : List Value := (([.int .i64 0] : List Value) ++ (([.int .u64 0] : List Value) ++ (([.int .u64 0] : List Value) ++ (([.int .u64 0] : List Value) ++ (([.int .u64 0] : List Value) ++ (([.int .i64 0] : List Value) ++ (([.int .i64 0] : List Value) ++ (z32 ++ (([.int .i64 0] : List Value) ++ (([.slice none 0 0] : List Value) ++ ([] : List Value)))))))))))
set_option maxRecDepth 100000 in
theorem zrTx_one : ∀ v ∈ zrTx, v.oneCell' = true := by decide
theorem zrTx_len : zrTx.length = 41 := by kernel_rfl
theorem zrTx_size : (Tryz.prog.info? 72).map (·.size) = some zrTx.length := by kernel_rfl
theorem zrTx_sizes : (Tryz.prog.info? 72).map (fun i => (i.zero.map (fun z => z.cells.size), i.size)) = some (some 41, 41) := by kernel_rfl
theorem zrTx_info : (Tryz.prog.info? 72).map (fun i => (i.zero, i.size, i.bytes)) = some (some (.agg zrTx.toArray), 41, 120) := by kernel_rfl
theorem zrTx_sized {C : List Value} (h : C.length = 41) : (Tryz.prog.info? 72).map (·.size) = some C.length := by rw [h]; kernel_rfl
set_option maxHeartbeats 8000000 in
set_option maxRecDepth 100000 in
theorem rReadTx_any (w : World) {S : Nat → Prop} {v : Value} {bs : List UInt8} (h : Bs w S v bs) (hlen : bs.length ≤ 1099511627776) :
    Calls Tryz.prog 23 #[v] w (RefOutZ tTx zrTx w bs) := by
  have hal := (Below.refl w.heap.size w).alloc (Nat.le_refl _) (.cells zrTx.toArray 72)
  have HS := Lib.hid (rsplit_any _ (h.below hal) hlen)
  have HR := Lib.hid (Blk.new w 72 zrTx.toArray)
  have HAL := Lib.hid hal
  have HLEN := Lib.hid hlen
  obtain ⟨A, cap, rfl⟩ := h.form
  clear h hal hlen
  go_enter Tryz.func23, Tryz.ntmps23
  go_wp2_with fail
  refine HS.out.mono ?_
  rintro e w1 ⟨hb1, hsp⟩
  have HR1 := Lib.hid (HR.out.below hb1 HR.out.lt)
  have HB1 := Lib.hid (HAL.out.trans (hb1.mono HAL.out.size))
  have hz01 : w.heap.size + 1 ≤ w1.heap.size := by have := hb1.size; simpa using this
  clear HR HAL HS hb1
  rcases hsp with ⟨hno, rfl⟩ | ⟨v1, l, hsp, rfl, hbss⟩
  · have HNO := Lib.hid (show Sh.dec tTx bs = none from by
      show (match splitB bs with | none => none | some l => Fs.decs _ l) = none
      rw [hno])
    have HRR := Lib.hid HR1.out
    have HB0 := Lib.hid HB1.out
    clear hno HR1 HB1
    go_wp2_with (refine wpList_store_blk (cs0 := zrTx) (cs := zrTx) rfl 72 _ _ rfl HRR.out rfl rfl rfl zrTx_size zrTx_one ?_; intro w9 hb9 hc9; have HB9 := Lib.hid hb9; have HC9 := Lib.hid hc9; clear hb9 hc9)
    have hld := run_loadVar_mid (P := Tryz.prog) w9 w.heap.size 0 72 zrTx _ HB9.out.range Tryz.underlying72 rfl zrTx_size
    refine bodyPost_ret (v := .tuple #[.agg (zrTx).toArray, .bool false]) (by simp [results, Tryz.results23, asAddr, hld]) rfl ?_
    exact ⟨HB0.out.trans (HC9.out.below HB0.out.size fun b h => Nat.le_of_eq h.symm), _, true, rfl, ⟨zrTx_len, zrTx_one, .inr ⟨HNO.out, rfl⟩⟩, fun _ => rfl⟩
  by_cases hln : l.length = 10
  rotate_left
  · have HNO := Lib.hid (show Sh.dec tTx bs = none from by
      show (match splitB bs with | none => none | some l => Fs.decs _ l) = none
      rw [hsp]
      cases hd : Fs.decs (.cons i64 (.cons u64 (.cons u64 (.cons u64 (.cons u64 (.cons i64 (.cons i64 (.cons .dig (.cons i64 (.cons (.list tFact) .nil)))))))))) l with
      | none => exact hd
      | some x => exact absurd (Fs.decs_len _ l x hd) hln)
    have HRR := Lib.hid HR1.out
    have HB0 := Lib.hid HB1.out
    obtain ⟨A1, c1, rfl⟩ := hbss.form
    have hlI : ¬ (l.length : Int) = 10 := by omega
    clear hsp HR1 HB1 hbss
    go_wp2_with (refine wpList_store_blk (cs0 := zrTx) (cs := zrTx) rfl 72 _ _ rfl HRR.out rfl rfl rfl zrTx_size zrTx_one ?_; intro w9 hb9 hc9; have HB9 := Lib.hid hb9; have HC9 := Lib.hid hc9; clear hb9 hc9)
    have hld := run_loadVar_mid (P := Tryz.prog) w9 w.heap.size 0 72 zrTx _ HB9.out.range Tryz.underlying72 rfl zrTx_size
    refine bodyPost_ret (v := .tuple #[.agg (zrTx).toArray, .bool false]) (by simp [results, Tryz.results23, asAddr, hld]) rfl ?_
    exact ⟨HB0.out.trans (HC9.out.below HB0.out.size fun b h => Nat.le_of_eq h.symm), _, true, rfl, ⟨zrTx_len, zrTx_one, .inr ⟨HNO.out, rfl⟩⟩, fun _ => rfl⟩
  have HSP := Lib.hid hsp
  have hrl : ∀ y ∈ l, y.length ≤ 1099511627776 := fun y hy => Nat.le_trans (joinP_mem_le hsp y hy) HLEN.out
  obtain ⟨A1, c1, rfl⟩ := hbss.form
  have hall := Bsr.all (hbss.read fun y hy => by have := hrl y hy; omega) (by omega)
  obtain ⟨r0, r1, r2, r3, r4, r5, r6, r7, r8, r9, rfl⟩ : ∃ r0 r1 r2 r3 r4 r5 r6 r7 r8 r9, l = [r0, r1, r2, r3, r4, r5, r6, r7, r8, r9] := by
    match l, hln with
    | [r0, r1, r2, r3, r4, r5, r6, r7, r8, r9], _ => exact ⟨r0, r1, r2, r3, r4, r5, r6, r7, r8, r9, rfl⟩
  have HRL := Lib.hid hrl
  obtain ⟨ba, oa, rfl, _, hba, hall⟩ := hall
  obtain ⟨A_0, c_0, hc_0, hr_0⟩ := hall 0 r0 rfl
  have HC_0 := Lib.hid hc_0
  have HR_0 := Lib.hid (hr_0.sub (T := fun b => b < w1.heap.size) fun _ _ h => h)
  obtain ⟨A_1, c_1, hc_1, hr_1⟩ := hall 1 r1 rfl
  have HC_1 := Lib.hid hc_1
  have HR_1 := Lib.hid (hr_1.sub (T := fun b => b < w1.heap.size) fun _ _ h => h)
  obtain ⟨A_2, c_2, hc_2, hr_2⟩ := hall 2 r2 rfl
  have HC_2 := Lib.hid hc_2
  have HR_2 := Lib.hid (hr_2.sub (T := fun b => b < w1.heap.size) fun _ _ h => h)
  obtain ⟨A_3, c_3, hc_3, hr_3⟩ := hall 3 r3 rfl
  have HC_3 := Lib.hid hc_3
  have HR_3 := Lib.hid (hr_3.sub (T := fun b => b < w1.heap.size) fun _ _ h => h)
  obtain ⟨A_4, c_4, hc_4, hr_4⟩ := hall 4 r4 rfl
  have HC_4 := Lib.hid hc_4
  have HR_4 := Lib.hid (hr_4.sub (T := fun b => b < w1.heap.size) fun _ _ h => h)
  obtain ⟨A_5, c_5, hc_5, hr_5⟩ := hall 5 r5 rfl
  have HC_5 := Lib.hid hc_5
  have HR_5 := Lib.hid (hr_5.sub (T := fun b => b < w1.heap.size) fun _ _ h => h)
  obtain ⟨A_6, c_6, hc_6, hr_6⟩ := hall 6 r6 rfl
  have HC_6 := Lib.hid hc_6
  have HR_6 := Lib.hid (hr_6.sub (T := fun b => b < w1.heap.size) fun _ _ h => h)
  obtain ⟨A_7, c_7, hc_7, hr_7⟩ := hall 7 r7 rfl
  have HC_7 := Lib.hid hc_7
  have HR_7 := Lib.hid (hr_7.sub (T := fun b => b < w1.heap.size) fun _ _ h => h)
  obtain ⟨A_8, c_8, hc_8, hr_8⟩ := hall 8 r8 rfl
  have HC_8 := Lib.hid hc_8
  have HR_8 := Lib.hid (hr_8.sub (T := fun b => b < w1.heap.size) fun _ _ h => h)
  obtain ⟨A_9, c_9, hc_9, hr_9⟩ := hall 9 r9 rfl
  have HC_9 := Lib.hid hc_9
  have HR_9 := Lib.hid (hr_9.sub (T := fun b => b < w1.heap.size) fun _ _ h => h)
  clear hall hbss hsp hrl hln hc_0 hr_0 hc_1 hr_1 hc_2 hr_2 hc_3 hr_3 hc_4 hr_4 hc_5 hr_5 hc_6 hr_6 hc_7 hr_7 hc_8 hr_8 hc_9 hr_9
  go_wp2_with (refine wpList_store_blk (cs0 := zrTx) (cs := zrTx) rfl 72 _ _ rfl (Blk.new w1 _ _) rfl rfl rfl zrTx_size zrTx_one ?_; intro w2 hb2 hc2; have HX2 := Lib.hid (show Blk w2 w1.heap.size 72 (([] : List Value) ++ (([.int .i64 0] : List Value) ++ (([.int .u64 0] : List Value) ++ (([.int .u64 0] : List Value) ++ (([.int .u64 0] : List Value) ++ (([.int .u64 0] : List Value) ++ (([.int .i64 0] : List Value) ++ (([.int .i64 0] : List Value) ++ (z32 ++ (([.int .i64 0] : List Value) ++ (([.slice none 0 0] : List Value) ++ ([] : List Value)))))))))))).toArray from hb2); have HP2 := Lib.hid (show Chg (fun b => b = w1.heap.size) w1 w2 from ((Chg.refl _ w1).alloc _).trans hc2 fun b h => .inl h); have hz2 : w1.heap.size + 1 ≤ w2.heap.size := (by have := hb2.lt; omega); have hcl0 : w2.cell? ⟨ba, oa, none⟩ = some (.slice A_0 r0.length c_0) := (World.cell?_of_block (a := ⟨ba, oa, none⟩) (HP2.out.block ba hba (fun e => by have e : ba = w1.heap.size := e; omega))).trans HC_0.out; clear hb2 hc2)
  refine (rnumI_out _ (HR_0.out.chg HP2.out fun b hb h => by have h : b = w1.heap.size := h; omega)).mono ?_
  rintro e wq ⟨hw, m0, g0, rfl, hm0, hsI, hsU⟩
  obtain rfl := hw.symm
  have HS0 := Lib.hid hsI
  clear hsI hsU hcl0
  have HPL0 := Lib.hid (show (([] : List Value)).length = 0 from by simp)
  go_simp
  repeat (first
    | (go_big_may; refine wpList_store_part (pre := ([] : List Value)) (old := ([.int .i64 0] : List Value)) (vals := ([.int .i64 (wrap64 (m0 : Int))] : List Value)) (post := (([.int .u64 0] : List Value) ++ (([.int .u64 0] : List Value) ++ (([.int .u64 0] : List Value) ++ (([.int .u64 0] : List Value) ++ (([.int .i64 0] : List Value) ++ (([.int .i64 0] : List Value) ++ (z32 ++ (([.int .i64 0] : List Value) ++ (([.slice none 0 0] : List Value) ++ ([] : List Value))))))))))) rfl 3 _ _ rfl HX2.out HPL0.out rfl (v := .int .i64 (wrap64 (m0 : Int))) rfl rfl (by simp only [List.length_cons, List.length_nil]) (by kernel_rfl) (fun u hu => by obtain rfl := List.mem_singleton.1 hu; rfl) ?_; intro w3 hbn hcn; have HX3 := Lib.hid hbn; have HC2 := Lib.hid hcn; have HP3 := Lib.hid (HP2.out.trans HC2.out fun b h => .inl h); have hz3 := Nat.le_trans hz2 HC2.out.size; have hcl1 : w3.cell? ⟨ba, oa + 1, none⟩ = some (.slice A_1 r1.length c_1) := (World.cell?_of_block (a := ⟨ba, oa + 1, none⟩) (HP3.out.block ba hba (fun e => by have e : ba = w1.heap.size := e; omega))).trans HC_1.out; clear hbn hcn)
    | go_values | go_skip | go_guarded | go_step | go_upon)
  refine (rnumI_out _ (HR_1.out.chg HP3.out fun b hb h => by have h : b = w1.heap.size := h; omega)).mono ?_
  rintro e wq ⟨hw, m1, g1, rfl, hm1, hsI, hsU⟩
  obtain rfl := hw.symm
  have HS1 := Lib.hid hsU
  clear hsI hsU hcl1
  have HPL1 := Lib.hid (show ((([] : List Value) ++ ([.int .i64 (wrap64 (m0 : Int))] : List Value))).length = 1 from by simp)
  go_simp
  repeat (first
    | ((with_reducible (show wpList _ _ _ (⟨_, .move _, _, _, _, some _⟩ :: _) _ _)); refine wpList_and g0 g1 _ _ _ rfl rfl rfl (by cases g0 <;> rfl) rfl (fun _ => rfl) (fun _ => rfl) ?_; intro vA1 k1 hk1; have HK1 := Lib.hid hk1; clear hk1)
    | (go_big_may; refine wpList_store_part (pre := (([] : List Value) ++ ([.int .i64 (wrap64 (m0 : Int))] : List Value))) (old := ([.int .u64 0] : List Value)) (vals := ([.int .u64 (m1 : Int)] : List Value)) (post := (([.int .u64 0] : List Value) ++ (([.int .u64 0] : List Value) ++ (([.int .u64 0] : List Value) ++ (([.int .i64 0] : List Value) ++ (([.int .i64 0] : List Value) ++ (z32 ++ (([.int .i64 0] : List Value) ++ (([.slice none 0 0] : List Value) ++ ([] : List Value)))))))))) rfl 69 _ _ rfl HX3.out HPL1.out rfl (v := .int .u64 (m1 : Int)) rfl rfl (by simp only [List.length_cons, List.length_nil]) (by kernel_rfl) (fun u hu => by obtain rfl := List.mem_singleton.1 hu; rfl) ?_; intro w4 hbn hcn; have HX4 := Lib.hid hbn; have HC3 := Lib.hid hcn; have HP4 := Lib.hid (HP3.out.trans HC3.out fun b h => .inl h); have hz4 := Nat.le_trans hz3 HC3.out.size; have hcl2 : w4.cell? ⟨ba, oa + 2, none⟩ = some (.slice A_2 r2.length c_2) := (World.cell?_of_block (a := ⟨ba, oa + 2, none⟩) (HP4.out.block ba hba (fun e => by have e : ba = w1.heap.size := e; omega))).trans HC_2.out; clear hbn hcn)
    | go_values | go_skip | go_guarded | go_step | go_upon)
  refine (rnumI_out _ (HR_2.out.chg HP4.out fun b hb h => by have h : b = w1.heap.size := h; omega)).mono ?_
  rintro e wq ⟨hw, m2, g2, rfl, hm2, hsI, hsU⟩
  obtain rfl := hw.symm
  have HS2 := Lib.hid hsU
  clear hsI hsU hcl2
  have HPL2 := Lib.hid (show (((([] : List Value) ++ ([.int .i64 (wrap64 (m0 : Int))] : List Value)) ++ ([.int .u64 (m1 : Int)] : List Value))).length = 2 from by simp)
  go_simp
  repeat (first
    | ((with_reducible (show wpList _ _ _ (⟨_, .move _, _, _, _, some _⟩ :: _) _ _)); refine wpList_and k1 g2 _ _ _ rfl rfl rfl (by cases k1 <;> rfl) rfl (fun _ => rfl) (fun _ => rfl) ?_; intro vA2 k2 hk2; have HK2 := Lib.hid hk2; clear hk2)
    | (go_big_may; refine wpList_store_part (pre := ((([] : List Value) ++ ([.int .i64 (wrap64 (m0 : Int))] : List Value)) ++ ([.int .u64 (m1 : Int)] : List Value))) (old := ([.int .u64 0] : List Value)) (vals := ([.int .u64 (m2 : Int)] : List Value)) (post := (([.int .u64 0] : List Value) ++ (([.int .u64 0] : List Value) ++ (([.int .i64 0] : List Value) ++ (([.int .i64 0] : List Value) ++ (z32 ++ (([.int .i64 0] : List Value) ++ (([.slice none 0 0] : List Value) ++ ([] : List Value))))))))) rfl 69 _ _ rfl HX4.out HPL2.out rfl (v := .int .u64 (m2 : Int)) rfl rfl (by simp only [List.length_cons, List.length_nil]) (by kernel_rfl) (fun u hu => by obtain rfl := List.mem_singleton.1 hu; rfl) ?_; intro w5 hbn hcn; have HX5 := Lib.hid hbn; have HC4 := Lib.hid hcn; have HP5 := Lib.hid (HP4.out.trans HC4.out fun b h => .inl h); have hz5 := Nat.le_trans hz4 HC4.out.size; have hcl3 : w5.cell? ⟨ba, oa + 3, none⟩ = some (.slice A_3 r3.length c_3) := (World.cell?_of_block (a := ⟨ba, oa + 3, none⟩) (HP5.out.block ba hba (fun e => by have e : ba = w1.heap.size := e; omega))).trans HC_3.out; clear hbn hcn)
    | go_values | go_skip | go_guarded | go_step | go_upon)
  refine (rnumI_out _ (HR_3.out.chg HP5.out fun b hb h => by have h : b = w1.heap.size := h; omega)).mono ?_
  rintro e wq ⟨hw, m3, g3, rfl, hm3, hsI, hsU⟩
  obtain rfl := hw.symm
  have HS3 := Lib.hid hsU
  clear hsI hsU hcl3
  have HPL3 := Lib.hid (show ((((([] : List Value) ++ ([.int .i64 (wrap64 (m0 : Int))] : List Value)) ++ ([.int .u64 (m1 : Int)] : List Value)) ++ ([.int .u64 (m2 : Int)] : List Value))).length = 3 from by simp)
  go_simp
  repeat (first
    | ((with_reducible (show wpList _ _ _ (⟨_, .move _, _, _, _, some _⟩ :: _) _ _)); refine wpList_and k2 g3 _ _ _ rfl rfl rfl (by cases k2 <;> rfl) rfl (fun _ => rfl) (fun _ => rfl) ?_; intro vA3 k3 hk3; have HK3 := Lib.hid hk3; clear hk3)
    | (go_big_may; refine wpList_store_part (pre := (((([] : List Value) ++ ([.int .i64 (wrap64 (m0 : Int))] : List Value)) ++ ([.int .u64 (m1 : Int)] : List Value)) ++ ([.int .u64 (m2 : Int)] : List Value))) (old := ([.int .u64 0] : List Value)) (vals := ([.int .u64 (m3 : Int)] : List Value)) (post := (([.int .u64 0] : List Value) ++ (([.int .i64 0] : List Value) ++ (([.int .i64 0] : List Value) ++ (z32 ++ (([.int .i64 0] : List Value) ++ (([.slice none 0 0] : List Value) ++ ([] : List Value)))))))) rfl 69 _ _ rfl HX5.out HPL3.out rfl (v := .int .u64 (m3 : Int)) rfl rfl (by simp only [List.length_cons, List.length_nil]) (by kernel_rfl) (fun u hu => by obtain rfl := List.mem_singleton.1 hu; rfl) ?_; intro w6 hbn hcn; have HX6 := Lib.hid hbn; have HC5 := Lib.hid hcn; have HP6 := Lib.hid (HP5.out.trans HC5.out fun b h => .inl h); have hz6 := Nat.le_trans hz5 HC5.out.size; have hcl4 : w6.cell? ⟨ba, oa + 4, none⟩ = some (.slice A_4 r4.length c_4) := (World.cell?_of_block (a := ⟨ba, oa + 4, none⟩) (HP6.out.block ba hba (fun e => by have e : ba = w1.heap.size := e; omega))).trans HC_4.out; clear hbn hcn)
    | go_values | go_skip | go_guarded | go_step | go_upon)
  refine (rnumI_out _ (HR_4.out.chg HP6.out fun b hb h => by have h : b = w1.heap.size := h; omega)).mono ?_
  rintro e wq ⟨hw, m4, g4, rfl, hm4, hsI, hsU⟩
  obtain rfl := hw.symm
  have HS4 := Lib.hid hsU
  clear hsI hsU hcl4
  have HPL4 := Lib.hid (show (((((([] : List Value) ++ ([.int .i64 (wrap64 (m0 : Int))] : List Value)) ++ ([.int .u64 (m1 : Int)] : List Value)) ++ ([.int .u64 (m2 : Int)] : List Value)) ++ ([.int .u64 (m3 : Int)] : List Value))).length = 4 from by simp)
  go_simp
  repeat (first
    | ((with_reducible (show wpList _ _ _ (⟨_, .move _, _, _, _, some _⟩ :: _) _ _)); refine wpList_and k3 g4 _ _ _ rfl rfl rfl (by cases k3 <;> rfl) rfl (fun _ => rfl) (fun _ => rfl) ?_; intro vA4 k4 hk4; have HK4 := Lib.hid hk4; clear hk4)
    | (go_big_may; refine wpList_store_part (pre := ((((([] : List Value) ++ ([.int .i64 (wrap64 (m0 : Int))] : List Value)) ++ ([.int .u64 (m1 : Int)] : List Value)) ++ ([.int .u64 (m2 : Int)] : List Value)) ++ ([.int .u64 (m3 : Int)] : List Value))) (old := ([.int .u64 0] : List Value)) (vals := ([.int .u64 (m4 : Int)] : List Value)) (post := (([.int .i64 0] : List Value) ++ (([.int .i64 0] : List Value) ++ (z32 ++ (([.int .i64 0] : List Value) ++ (([.slice none 0 0] : List Value) ++ ([] : List Value))))))) rfl 69 _ _ rfl HX6.out HPL4.out rfl (v := .int .u64 (m4 : Int)) rfl rfl (by simp only [List.length_cons, List.length_nil]) (by kernel_rfl) (fun u hu => by obtain rfl := List.mem_singleton.1 hu; rfl) ?_; intro w7 hbn hcn; have HX7 := Lib.hid hbn; have HC6 := Lib.hid hcn; have HP7 := Lib.hid (HP6.out.trans HC6.out fun b h => .inl h); have hz7 := Nat.le_trans hz6 HC6.out.size; have hcl5 : w7.cell? ⟨ba, oa + 5, none⟩ = some (.slice A_5 r5.length c_5) := (World.cell?_of_block (a := ⟨ba, oa + 5, none⟩) (HP7.out.block ba hba (fun e => by have e : ba = w1.heap.size := e; omega))).trans HC_5.out; clear hbn hcn)
    | go_values | go_skip | go_guarded | go_step | go_upon)
  refine (rnumI_out _ (HR_5.out.chg HP7.out fun b hb h => by have h : b = w1.heap.size := h; omega)).mono ?_
  rintro e wq ⟨hw, m5, g5, rfl, hm5, hsI, hsU⟩
  obtain rfl := hw.symm
  have HS5 := Lib.hid hsI
  clear hsI hsU hcl5
  have HPL5 := Lib.hid (show ((((((([] : List Value) ++ ([.int .i64 (wrap64 (m0 : Int))] : List Value)) ++ ([.int .u64 (m1 : Int)] : List Value)) ++ ([.int .u64 (m2 : Int)] : List Value)) ++ ([.int .u64 (m3 : Int)] : List Value)) ++ ([.int .u64 (m4 : Int)] : List Value))).length = 5 from by simp)
  go_simp
  repeat (first
    | ((with_reducible (show wpList _ _ _ (⟨_, .move _, _, _, _, some _⟩ :: _) _ _)); refine wpList_and k4 g5 _ _ _ rfl rfl rfl (by cases k4 <;> rfl) rfl (fun _ => rfl) (fun _ => rfl) ?_; intro vA5 k5 hk5; have HK5 := Lib.hid hk5; clear hk5)
    | (go_big_may; refine wpList_store_part (pre := (((((([] : List Value) ++ ([.int .i64 (wrap64 (m0 : Int))] : List Value)) ++ ([.int .u64 (m1 : Int)] : List Value)) ++ ([.int .u64 (m2 : Int)] : List Value)) ++ ([.int .u64 (m3 : Int)] : List Value)) ++ ([.int .u64 (m4 : Int)] : List Value))) (old := ([.int .i64 0] : List Value)) (vals := ([.int .i64 (wrap64 (m5 : Int))] : List Value)) (post := (([.int .i64 0] : List Value) ++ (z32 ++ (([.int .i64 0] : List Value) ++ (([.slice none 0 0] : List Value) ++ ([] : List Value)))))) rfl 3 _ _ rfl HX7.out HPL5.out rfl (v := .int .i64 (wrap64 (m5 : Int))) rfl rfl (by simp only [List.length_cons, List.length_nil]) (by kernel_rfl) (fun u hu => by obtain rfl := List.mem_singleton.1 hu; rfl) ?_; intro w8 hbn hcn; have HX8 := Lib.hid hbn; have HC7 := Lib.hid hcn; have HP8 := Lib.hid (HP7.out.trans HC7.out fun b h => .inl h); have hz8 := Nat.le_trans hz7 HC7.out.size; have hcl6 : w8.cell? ⟨ba, oa + 6, none⟩ = some (.slice A_6 r6.length c_6) := (World.cell?_of_block (a := ⟨ba, oa + 6, none⟩) (HP8.out.block ba hba (fun e => by have e : ba = w1.heap.size := e; omega))).trans HC_6.out; clear hbn hcn)
    | go_values | go_skip | go_guarded | go_step | go_upon)
  refine (rnumI_out _ (HR_6.out.chg HP8.out fun b hb h => by have h : b = w1.heap.size := h; omega)).mono ?_
  rintro e wq ⟨hw, m6, g6, rfl, hm6, hsI, hsU⟩
  obtain rfl := hw.symm
  have HS6 := Lib.hid hsI
  clear hsI hsU hcl6
  have HPL6 := Lib.hid (show (((((((([] : List Value) ++ ([.int .i64 (wrap64 (m0 : Int))] : List Value)) ++ ([.int .u64 (m1 : Int)] : List Value)) ++ ([.int .u64 (m2 : Int)] : List Value)) ++ ([.int .u64 (m3 : Int)] : List Value)) ++ ([.int .u64 (m4 : Int)] : List Value)) ++ ([.int .i64 (wrap64 (m5 : Int))] : List Value))).length = 6 from by simp)
  go_simp
  repeat (first
    | ((with_reducible (show wpList _ _ _ (⟨_, .move _, _, _, _, some _⟩ :: _) _ _)); refine wpList_and k5 g6 _ _ _ rfl rfl rfl (by cases k5 <;> rfl) rfl (fun _ => rfl) (fun _ => rfl) ?_; intro vA6 k6 hk6; have HK6 := Lib.hid hk6; clear hk6)
    | (go_big_may; refine wpList_store_part (pre := ((((((([] : List Value) ++ ([.int .i64 (wrap64 (m0 : Int))] : List Value)) ++ ([.int .u64 (m1 : Int)] : List Value)) ++ ([.int .u64 (m2 : Int)] : List Value)) ++ ([.int .u64 (m3 : Int)] : List Value)) ++ ([.int .u64 (m4 : Int)] : List Value)) ++ ([.int .i64 (wrap64 (m5 : Int))] : List Value))) (old := ([.int .i64 0] : List Value)) (vals := ([.int .i64 (wrap64 (m6 : Int))] : List Value)) (post := (z32 ++ (([.int .i64 0] : List Value) ++ (([.slice none 0 0] : List Value) ++ ([] : List Value))))) rfl 2 _ _ rfl HX8.out HPL6.out rfl (v := .int .i64 (wrap64 (m6 : Int))) rfl rfl (by simp only [List.length_cons, List.length_nil]) (by kernel_rfl) (fun u hu => by obtain rfl := List.mem_singleton.1 hu; rfl) ?_; intro w9 hbn hcn; have HX9 := Lib.hid hbn; have HC8 := Lib.hid hcn; have HP9 := Lib.hid (HP8.out.trans HC8.out fun b h => .inl h); have hz9 := Nat.le_trans hz8 HC8.out.size; have hcl7 : w9.cell? ⟨ba, oa + 7, none⟩ = some (.slice A_7 r7.length c_7) := (World.cell?_of_block (a := ⟨ba, oa + 7, none⟩) (HP9.out.block ba hba (fun e => by have e : ba = w1.heap.size := e; omega))).trans HC_7.out; clear hbn hcn)
    | go_values | go_skip | go_guarded | go_step | go_upon)
  refine (rdig_out _ (HR_7.out.chg HP9.out fun b hb h => by have h : b = w1.heap.size := h; omega)).mono ?_
  rintro e wa7 ⟨hba7, q7, g7, rfl, hs7⟩
  have hl7 : q7.length = 32 := hs7.1
  have HL7 := Lib.hid hl7
  have H17 := Lib.hid hs7.2.1
  have HI7 := Lib.hid (z32_sized hl7)
  have HZ7 := Lib.hid (show (z32).length = q7.length from by rw [hl7]; exact z32_len)
  have HXa7 := Lib.hid (HX9.out.below hba7 HX9.out.lt)
  have HBA7 := Lib.hid hba7
  have HS7 := Lib.hid hs7
  have hza7 := hba7.size
  clear hba7 hs7 hl7 hcl7
  have HPL7 := Lib.hid (show ((((((((([] : List Value) ++ ([.int .i64 (wrap64 (m0 : Int))] : List Value)) ++ ([.int .u64 (m1 : Int)] : List Value)) ++ ([.int .u64 (m2 : Int)] : List Value)) ++ ([.int .u64 (m3 : Int)] : List Value)) ++ ([.int .u64 (m4 : Int)] : List Value)) ++ ([.int .i64 (wrap64 (m5 : Int))] : List Value)) ++ ([.int .i64 (wrap64 (m6 : Int))] : List Value))).length = 7 from by simp)
  go_simp
  repeat (first
    | ((with_reducible (show wpList _ _ _ (⟨_, .move _, _, _, _, some _⟩ :: _) _ _)); refine wpList_and k6 g7 _ _ _ rfl rfl rfl (by cases k6 <;> rfl) rfl (fun _ => rfl) (fun _ => rfl) ?_; intro vA7 k7 hk7; have HK7 := Lib.hid hk7; clear hk7)
    | (go_big_may; refine wpList_store_blk (cs0 := z32) (cs := q7) rfl 36 _ _ rfl (Blk.new wa7 _ _) rfl rfl HZ7.out HI7.out H17.out ?_; intro wb7 hbb hcb; have HBB7 := Lib.hid hbb; have HCB7 := Lib.hid (show Chg (fun _ => False) wa7 wb7 from ((Chg.refl _ wa7).alloc _).trans hcb fun b h => .inr (Nat.le_of_eq h.symm)); have HXb7 := Lib.hid (HXa7.out.chg HCB7.out id); clear hbb hcb)
    | (go_big_may; refine wpList_load_blk' rfl 36 _ rfl HBB7.out rfl Tryz.underlying36 rfl HI7.out ?_)
    | (go_big_may; refine wpList_store_part (pre := (((((((([] : List Value) ++ ([.int .i64 (wrap64 (m0 : Int))] : List Value)) ++ ([.int .u64 (m1 : Int)] : List Value)) ++ ([.int .u64 (m2 : Int)] : List Value)) ++ ([.int .u64 (m3 : Int)] : List Value)) ++ ([.int .u64 (m4 : Int)] : List Value)) ++ ([.int .i64 (wrap64 (m5 : Int))] : List Value)) ++ ([.int .i64 (wrap64 (m6 : Int))] : List Value))) (old := z32) (vals := q7) (post := (([.int .i64 0] : List Value) ++ (([.slice none 0 0] : List Value) ++ ([] : List Value)))) rfl 36 _ _ rfl HXb7.out HPL7.out rfl (v := .agg q7.toArray) rfl rfl HZ7.out HI7.out H17.out ?_; intro w10 hbn hcn; have HX10 := Lib.hid hbn; have HC9 := Lib.hid (show Chg (fun b => b = w1.heap.size) w9 w10 from (((Chg.of_below HBA7.out fun b => b = w1.heap.size).trans HCB7.out fun b h => h.elim).trans hcn fun b h => .inl h)); have HCD7 := Lib.hid (show Chg (fun b => b = w1.heap.size) wa7 w10 from (HCB7.out.mono (M' := fun b => b = w1.heap.size) fun _ h => h.elim).trans hcn fun b h => .inl h); have HP10 := Lib.hid (HP9.out.trans HC9.out fun b h => .inl h); have hz10 := Nat.le_trans hz9 HC9.out.size; have hcl8 : w10.cell? ⟨ba, oa + 8, none⟩ = some (.slice A_8 r8.length c_8) := (World.cell?_of_block (a := ⟨ba, oa + 8, none⟩) (HP10.out.block ba hba (fun e => by have e : ba = w1.heap.size := e; omega))).trans HC_8.out; clear hbn hcn)
    | go_values | go_skip | go_guarded | go_step | go_upon)
  refine (rnumI_out _ (HR_8.out.chg HP10.out fun b hb h => by have h : b = w1.heap.size := h; omega)).mono ?_
  rintro e wq ⟨hw, m8, g8, rfl, hm8, hsI, hsU⟩
  obtain rfl := hw.symm
  have HS8 := Lib.hid hsI
  clear hsI hsU hcl8
  have HPL8 := Lib.hid (show (((((((((([] : List Value) ++ ([.int .i64 (wrap64 (m0 : Int))] : List Value)) ++ ([.int .u64 (m1 : Int)] : List Value)) ++ ([.int .u64 (m2 : Int)] : List Value)) ++ ([.int .u64 (m3 : Int)] : List Value)) ++ ([.int .u64 (m4 : Int)] : List Value)) ++ ([.int .i64 (wrap64 (m5 : Int))] : List Value)) ++ ([.int .i64 (wrap64 (m6 : Int))] : List Value)) ++ q7)).length = 39 from by simp [HL7.out])
  go_simp
  repeat (first
    | ((with_reducible (show wpList _ _ _ (⟨_, .move _, _, _, _, some _⟩ :: _) _ _)); refine wpList_and k7 g8 _ _ _ rfl rfl rfl (by cases k7 <;> rfl) rfl (fun _ => rfl) (fun _ => rfl) ?_; intro vA8 k8 hk8; have HK8 := Lib.hid hk8; clear hk8)
    | (go_big_may; refine wpList_store_part (pre := ((((((((([] : List Value) ++ ([.int .i64 (wrap64 (m0 : Int))] : List Value)) ++ ([.int .u64 (m1 : Int)] : List Value)) ++ ([.int .u64 (m2 : Int)] : List Value)) ++ ([.int .u64 (m3 : Int)] : List Value)) ++ ([.int .u64 (m4 : Int)] : List Value)) ++ ([.int .i64 (wrap64 (m5 : Int))] : List Value)) ++ ([.int .i64 (wrap64 (m6 : Int))] : List Value)) ++ q7)) (old := ([.int .i64 0] : List Value)) (vals := ([.int .i64 (wrap64 (m8 : Int))] : List Value)) (post := (([.slice none 0 0] : List Value) ++ ([] : List Value))) rfl 3 _ _ rfl HX10.out HPL8.out rfl (v := .int .i64 (wrap64 (m8 : Int))) rfl rfl (by simp only [List.length_cons, List.length_nil]) (by kernel_rfl) (fun u hu => by obtain rfl := List.mem_singleton.1 hu; rfl) ?_; intro w11 hbn hcn; have HX11 := Lib.hid hbn; have HC10 := Lib.hid hcn; have HP11 := Lib.hid (HP10.out.trans HC10.out fun b h => .inl h); have hz11 := Nat.le_trans hz10 HC10.out.size; have hcl9 : w11.cell? ⟨ba, oa + 9, none⟩ = some (.slice A_9 r9.length c_9) := (World.cell?_of_block (a := ⟨ba, oa + 9, none⟩) (HP11.out.block ba hba (fun e => by have e : ba = w1.heap.size := e; omega))).trans HC_9.out; clear hbn hcn)
    | go_values | go_skip | go_guarded | go_step | go_upon)
  refine (rsplit_one _ (HR_9.out.chg HP11.out fun b hb h => by have h : b = w1.heap.size := h; omega) (HRL.out _ (by simp))).mono ?_
  rintro e ws9 ⟨hbs9, As9, cs9, l9, g9, rfl, hbss9, hll9, hrl9, hsp9⟩
  have HXS9 := Lib.hid (HX11.out.below hbs9 HX11.out.lt)
  have HPS9 := Lib.hid (HP11.out.trans (Chg.of_below hbs9 fun b => b = w1.heap.size) fun b h => .inl h)
  have hzs9 := Nat.le_trans hz11 hbs9.size
  have hzt9 := hbs9.size
  have HROW9 := Lib.hid ((hbss9.read fun y hy => by have := hrl9 y hy; omega).subs (T := fun b => b ≠ w1.heap.size) fun b hb _ => by have hb : w11.heap.size ≤ b := hb.elim id id; omega)
  have HSPL9 := Lib.hid hsp9
  have HRLL9 := Lib.hid hrl9
  have HBS9 := Lib.hid hbs9
  have HPL9 := Lib.hid (show ((((((((((([] : List Value) ++ ([.int .i64 (wrap64 (m0 : Int))] : List Value)) ++ ([.int .u64 (m1 : Int)] : List Value)) ++ ([.int .u64 (m2 : Int)] : List Value)) ++ ([.int .u64 (m3 : Int)] : List Value)) ++ ([.int .u64 (m4 : Int)] : List Value)) ++ ([.int .i64 (wrap64 (m5 : Int))] : List Value)) ++ ([.int .i64 (wrap64 (m6 : Int))] : List Value)) ++ q7) ++ ([.int .i64 (wrap64 (m8 : Int))] : List Value))).length = 40 from by simp [HL7.out])
  clear hbs9 hbss9 hrl9 hsp9 hcl9
  go_simp
  repeat (first
    | ((with_reducible (show wpList _ _ _ (⟨_, .move _, _, _, _, some _⟩ :: _) _ _)); refine wpList_and k8 g9 _ _ _ rfl rfl rfl (by cases k8 <;> rfl) rfl (fun _ => rfl) (fun _ => rfl) ?_; intro vA9 k9 hk9; have HK9 := Lib.hid hk9; clear hk9)
    | go_values | go_skip | go_guarded | go_step | go_upon)
  go_loopw [7, 28] (fun a i wr => ∃ (k : Nat) (c : Bool) (o : Value), k ≤ l9.length ∧ i = .int .i64 k ∧ a = .bool (!c) ∧ Hid (RefI 61 73 tFact ws9 w1.heap.size 72 (((((((((([] : List Value) ++ ([.int .i64 (wrap64 (m0 : Int))] : List Value)) ++ ([.int .u64 (m1 : Int)] : List Value)) ++ ([.int .u64 (m2 : Int)] : List Value)) ++ ([.int .u64 (m3 : Int)] : List Value)) ++ ([.int .u64 (m4 : Int)] : List Value)) ++ ([.int .i64 (wrap64 (m5 : Int))] : List Value)) ++ ([.int .i64 (wrap64 (m6 : Int))] : List Value)) ++ q7) ++ ([.int .i64 (wrap64 (m8 : Int))] : List Value)) ([] : List Value) l9 k9 o k c wr)) (fun _ i _ => l9.length - (intOf i).toNat)
  case atStart => exact ⟨0, k9, _, Nat.zero_le _, rfl, rfl, Lib.hid (RefI.start HXS9.out)⟩
  case round =>
    obtain ⟨k, kc9, o9, hk, rfl, rfl, HI⟩ := hrel
    by_cases hlt : k < l9.length
    · obtain ⟨css, hown, hob, hlo, hbx, hch⟩ := HI.out
      obtain ⟨bm, om, hAm, hTm, hbm, hallm⟩ := Bsr.all HROW9.out (by omega)
      subst hAm
      obtain ⟨Ay, cy, hcy, hyb⟩ := hallm k l9[k] (List.getElem?_eq_getElem hlt)
      have hcyw : wr.cell? ⟨bm, om + k, none⟩ = some (.slice Ay l9[k].length cy) := (World.cell?_of_block (a := ⟨bm, om + k, none⟩) (hch.block bm hbm (fun e => hTm e))).trans hcy
      have htk : l9.take (k + 1) = l9.take k ++ [l9[k]] := List.take_succ_eq_append_getElem hlt
      have hyl := HRLL9.out l9[k] (List.getElem_mem hlt)
      have hyb2 := hyb.chg hch fun b hb h => hb h
      obtain ⟨y, hy⟩ : ∃ y, y = l9[k] := ⟨_, rfl⟩
      rw [← hy] at hcyw htk hyl hyb2
      have HR := Lib.hid (rReadFact_any wr hyb2 hyl)
      obtain ⟨Ao, co, rfl⟩ := hown.form
      have HOWN := Lib.hid hown
      have HOB := Lib.hid hob
      have HLO := Lib.hid hlo
      have HCH := Lib.hid hch
      have HTK := Lib.hid htk
      have HBX := Lib.hid hbx
      have H63 := Lib.hid (show k + 1 ≤ maxLen ∧ (k + 1) * 216 ≤ 140737488355328 from ⟨by simp only [maxLen]; omega, by omega⟩)
      have hzr := hch.size
      clear hown hob hlo hch htk hbx hyl hy hyb hyb2 hcy hallm hTm hbm HI
      go_wp2_with fail
      refine HR.out.mono ?_
      rintro e wa ⟨hba, q, g, rfl, hs, _⟩
      have hl : q.length = 73 := hs.1
      have HL := Lib.hid hl
      have H1 := Lib.hid hs.2.1
      have HIq := Lib.hid (zrFact_sized hl)
      have HIq2 := Lib.hid (show (Tryz.prog.info? 61).map (fun i => (i.zero.map (fun z => z.cells.size), i.size)) = some (some q.length, q.length) from by rw [hl]; exact zrFact_sizes)
      have HZ := Lib.hid (show (zrFact).length = q.length from by rw [hl]; exact zrFact_len)
      have HXa := Lib.hid (HBX.out.below hba HBX.out.lt)
      have HBA := Lib.hid hba
      have HSQ := Lib.hid hs
      have hza := hba.size
      clear hba hs hl hcyw HR
      go_simp
      repeat (first
        | (go_big_may; refine wpList_store_blk (cs0 := zrFact) (cs := q) rfl 61 _ _ rfl (Blk.new wa _ _) rfl rfl HZ.out HIq.out H1.out ?_; intro wb hbb hcb; have HBB := Lib.hid hbb; have HCB := Lib.hid (show Chg (fun _ => False) wa wb from ((Chg.refl _ wa).alloc _).trans hcb fun b h => .inr (Nat.le_of_eq h.symm)); have HXb := Lib.hid (HXa.out.chg HCB.out id); have hco : wb.cell? ⟨w1.heap.size, 40, none⟩ = some (.slice Ao k co) := blk_mid HXb.out HPL9.out; have HO2 := Lib.hid (show ∀ ob, Own (wb.alloc ob) 61 73 (.slice Ao k co) k css.flatten from fun ob => own_keep HOWN.out fun b hb => (Below.heap_alloc wb ob b (ltle (ltle (own_lt HOWN.out hb) HBA.out.size) HCB.out.size)).trans ((HCB.out.block b (ltle (own_lt HOWN.out hb) HBA.out.size) id).trans (HBA.out.block b (own_lt HOWN.out hb)))); have HS2 := Lib.hid (Cs.of_new wb 61 (size := 73) 1 (cs := q) (by rw [HL.out]) (by simp only [maxLen]; decide)); clear hbb hcb)
        | (go_big_may; refine wpList_load_blk' rfl 61 _ rfl HBB.out rfl Tryz.underlying61 rfl HIq.out ?_)
        | (go_big_may; refine wpList_row1 rfl 70 61 _ rfl Tryz.underlying70 (.agg q.toArray) rfl q rfl HIq2.out (by rw [HL.out]; decide) (by rw [HL.out]; decide) ?_)
        | (go_big_may; at_builtin; refine wpList_app _ rfl _ _ _ rfl Tryz.underlying70 zrFact_info rfl (by decide) (HO2.out _) rfl HS2.out rfl H1.out H63.out.1 H63.out.2 ?_; intro v6 w6 ho6 hc6 hnil6 hat6; clear hnil6; obtain ⟨A6, c6, rfl⟩ := ho6.form; have HX6 := Lib.hid (Blk.assoc_ ((HXb.out.alloc _).chg hc6 fun h => by have := HOB.out _ h; omega)); have HO6 := Lib.hid ho6; have HC6 := Lib.hid hc6; have HAT6 := Lib.hid hat6; clear ho6 hc6 hat6)
        | (go_big_may; refine wpList_store_part (pre := (((((((((([] : List Value) ++ ([.int .i64 (wrap64 (m0 : Int))] : List Value)) ++ ([.int .u64 (m1 : Int)] : List Value)) ++ ([.int .u64 (m2 : Int)] : List Value)) ++ ([.int .u64 (m3 : Int)] : List Value)) ++ ([.int .u64 (m4 : Int)] : List Value)) ++ ([.int .i64 (wrap64 (m5 : Int))] : List Value)) ++ ([.int .i64 (wrap64 (m6 : Int))] : List Value)) ++ q7) ++ ([.int .i64 (wrap64 (m8 : Int))] : List Value))) (old := ([.slice Ao k co] : List Value)) (vals := ([.slice A6 (k + 1) c6] : List Value)) (post := ([] : List Value)) rfl 70 _ _ rfl HX6.out HPL9.out rfl (v := .slice A6 (k + 1) c6) rfl rfl (by simp only [List.length_cons, List.length_nil]) (by kernel_rfl) (fun u hu => by obtain rfl := List.mem_singleton.1 hu; rfl) ?_; intro w7 hx7 hc7; have HX7 := Lib.hid hx7; have HC7 := Lib.hid hc7; clear hx7 hc7)
        | ((with_reducible (show wpList _ _ _ (⟨_, .move _, _, _, _, some _⟩ :: _) _ _)); refine wpList_and kc9 g _ _ _ rfl rfl rfl (by cases kc9 <;> rfl) rfl (fun _ => rfl) (fun _ => rfl) ?_; intro vA cN hcN; have HCN := Lib.hid hcN; clear hcN)
        | go_values | go_skip | go_guarded | go_step | go_upon)
      go_wp2_with fail
      exact ⟨⟨k + 1, cN, _, by omega, by push_cast; rfl, rfl, Lib.hid (RefI.step (by omega) HOWN.out HOB.out HLO.out HCH.out HBA.out HSQ.out HCB.out HTK.out HO6.out HC6.out HAT6.out HX7.out HC7.out HCN.out)⟩, by simp only [intOf]; omega⟩
    · have hk' : k = l9.length := by omega
      subst hk'
      have HS9 := Lib.hid (HI.out.out rfl HSPL9.out HK9.out)
      obtain ⟨css, hown, _, _, hbx, hch⟩ := HI.out
      have HX12 := Lib.hid hbx
      have HC11 := Lib.hid (show Chg (fun b => b = w1.heap.size) w11 wr from (Chg.of_below HBS9.out fun b => b = w1.heap.size).trans hch fun b h => .inl h)
      clear hown hbx hch HI hk HXS9 HPS9 HROW9 HRLL9
      generalize wr = w12 at *
      have HPL9 := HPL9
      have HP12 := Lib.hid (HP11.out.trans HC11.out fun b h => .inl h)
      have hz12 := Nat.le_trans hz11 HC11.out.size
      cases kc9 <;> refine Hid.out ?_
      · refine Lib.hid ?_
        have HRR := Lib.hid ((HR1.out.chg HP12.out (fun h => by have h : w.heap.size = w1.heap.size := h; omega)))
        have HB0 := Lib.hid (HB1.out.trans (HP12.out.below HB1.out.size fun b h => by have h : b = w1.heap.size := h; omega))
        have hkb7 : ∀ b, w9.heap.size ≤ b → b < wa7.heap.size → b < w10.heap.size ∧ w10.heap[b]? = wa7.heap[b]? := fun b hb hlt => ⟨ltle hlt HCD7.out.size, HCD7.out.block b hlt fun e => by have e : b = w1.heap.size := e; omega⟩
        have ho0 : SOut i64 w3 (Nw w2.heap.size w3) r0 ([.int .i64 (wrap64 (m0 : Int))] : List Value) false g0 := (HS0.out w3 (Nw w2.heap.size w3))
        have ho1 : SOut u64 w4 (Nw w3.heap.size w4) r1 ([.int .u64 (m1 : Int)] : List Value) g0 k1 := (HS1.out w4 (Nw w3.heap.size w4)).orr g0 k1 HK1.out
        have ho2 : SOut u64 w5 (Nw w4.heap.size w5) r2 ([.int .u64 (m2 : Int)] : List Value) k1 k2 := (HS2.out w5 (Nw w4.heap.size w5)).orr k1 k2 HK2.out
        have ho3 : SOut u64 w6 (Nw w5.heap.size w6) r3 ([.int .u64 (m3 : Int)] : List Value) k2 k3 := (HS3.out w6 (Nw w5.heap.size w6)).orr k2 k3 HK3.out
        have ho4 : SOut u64 w7 (Nw w6.heap.size w7) r4 ([.int .u64 (m4 : Int)] : List Value) k3 k4 := (HS4.out w7 (Nw w6.heap.size w7)).orr k3 k4 HK4.out
        have ho5 : SOut i64 w8 (Nw w7.heap.size w8) r5 ([.int .i64 (wrap64 (m5 : Int))] : List Value) k4 k5 := (HS5.out w8 (Nw w7.heap.size w8)).orr k4 k5 HK5.out
        have ho6 : SOut i64 w9 (Nw w8.heap.size w9) r6 ([.int .i64 (wrap64 (m6 : Int))] : List Value) k5 k6 := (HS6.out w9 (Nw w8.heap.size w9)).orr k5 k6 HK6.out
        have ho7 : SOut .dig w10 (Nw w9.heap.size w10) r7 q7 k6 k7 := (HS7.out.nw (k' := w9.heap.size) (w' := w10) hkb7 (Nat.le_refl _)).orr k6 k7 HK7.out
        have ho8 : SOut i64 w11 (Nw w10.heap.size w11) r8 ([.int .i64 (wrap64 (m8 : Int))] : List Value) k7 k8 := (HS8.out w11 (Nw w10.heap.size w11)).orr k7 k8 HK8.out
        have ho9 : SOut (.list tFact) w12 (Nw w11.heap.size w12) r9 ([o9] : List Value) k8 false := (HS9.out.nw (k' := w11.heap.size) (fun b _ hlt => ⟨hlt, rfl⟩) hzt9)
        have hout : Fs.Out (.cons i64 (.cons u64 (.cons u64 (.cons u64 (.cons u64 (.cons i64 (.cons i64 (.cons .dig (.cons i64 (.cons (.list tFact) .nil)))))))))) w12 (Nw (w.heap.size + 1) w12) [r0, r1, r2, r3, r4, r5, r6, r7, r8, r9] (([.int .i64 (wrap64 (m0 : Int))] : List Value) ++ (([.int .u64 (m1 : Int)] : List Value) ++ (([.int .u64 (m2 : Int)] : List Value) ++ (([.int .u64 (m3 : Int)] : List Value) ++ (([.int .u64 (m4 : Int)] : List Value) ++ (([.int .i64 (wrap64 (m5 : Int))] : List Value) ++ (([.int .i64 (wrap64 (m6 : Int))] : List Value) ++ (q7 ++ (([.int .i64 (wrap64 (m8 : Int))] : List Value) ++ (([o9] : List Value) ++ [])))))))))) false false := Fs.Out.stepR ho0 (Fs.Out.stepR ho1 (Fs.Out.stepR ho2 (Fs.Out.stepR ho3 (Fs.Out.stepR ho4 (Fs.Out.stepR ho5 (Fs.Out.stepR ho6 (Fs.Out.stepR ho7 (Fs.Out.stepR ho8 (Fs.Out.stepR ho9 (Fs.Out.nil_ w12 _ _) (Chg.refl (fun k => k = w1.heap.size) _) (by omega) (by omega)) HC11.out (by omega) (by omega)) (HC10.out.trans HC11.out fun b h => .inl h) (by omega) (by omega)) ((HC9.out.trans HC10.out fun b h => .inl h).trans HC11.out fun b h => .inl h) (by omega) (by omega)) (((HC8.out.trans HC9.out fun b h => .inl h).trans HC10.out fun b h => .inl h).trans HC11.out fun b h => .inl h) (by omega) (by omega)) ((((HC7.out.trans HC8.out fun b h => .inl h).trans HC9.out fun b h => .inl h).trans HC10.out fun b h => .inl h).trans HC11.out fun b h => .inl h) (by omega) (by omega)) (((((HC6.out.trans HC7.out fun b h => .inl h).trans HC8.out fun b h => .inl h).trans HC9.out fun b h => .inl h).trans HC10.out fun b h => .inl h).trans HC11.out fun b h => .inl h) (by omega) (by omega)) ((((((HC5.out.trans HC6.out fun b h => .inl h).trans HC7.out fun b h => .inl h).trans HC8.out fun b h => .inl h).trans HC9.out fun b h => .inl h).trans HC10.out fun b h => .inl h).trans HC11.out fun b h => .inl h) (by omega) (by omega)) (((((((HC4.out.trans HC5.out fun b h => .inl h).trans HC6.out fun b h => .inl h).trans HC7.out fun b h => .inl h).trans HC8.out fun b h => .inl h).trans HC9.out fun b h => .inl h).trans HC10.out fun b h => .inl h).trans HC11.out fun b h => .inl h) (by omega) (by omega)) ((((((((HC3.out.trans HC4.out fun b h => .inl h).trans HC5.out fun b h => .inl h).trans HC6.out fun b h => .inl h).trans HC7.out fun b h => .inl h).trans HC8.out fun b h => .inl h).trans HC9.out fun b h => .inl h).trans HC10.out fun b h => .inl h).trans HC11.out fun b h => .inl h) (by omega) (by omega)
        have htup : SOut tTx w12 (Nw (w.heap.size + 1) w12) bs (([.int .i64 (wrap64 (m0 : Int))] : List Value) ++ (([.int .u64 (m1 : Int)] : List Value) ++ (([.int .u64 (m2 : Int)] : List Value) ++ (([.int .u64 (m3 : Int)] : List Value) ++ (([.int .u64 (m4 : Int)] : List Value) ++ (([.int .i64 (wrap64 (m5 : Int))] : List Value) ++ (([.int .i64 (wrap64 (m6 : Int))] : List Value) ++ (q7 ++ (([.int .i64 (wrap64 (m8 : Int))] : List Value) ++ (([o9] : List Value) ++ [])))))))))) false false := Fs.Out.tup (n := 10) hout (.inl ⟨rfl, HSP.out⟩) fun l x h => Fs.decs_len _ l x h
        have hpre : ((((((((((([] : List Value) ++ ([.int .i64 (wrap64 (m0 : Int))] : List Value)) ++ ([.int .u64 (m1 : Int)] : List Value)) ++ ([.int .u64 (m2 : Int)] : List Value)) ++ ([.int .u64 (m3 : Int)] : List Value)) ++ ([.int .u64 (m4 : Int)] : List Value)) ++ ([.int .i64 (wrap64 (m5 : Int))] : List Value)) ++ ([.int .i64 (wrap64 (m6 : Int))] : List Value)) ++ q7) ++ ([.int .i64 (wrap64 (m8 : Int))] : List Value)) ++ ([o9] : List Value)) = (([.int .i64 (wrap64 (m0 : Int))] : List Value) ++ (([.int .u64 (m1 : Int)] : List Value) ++ (([.int .u64 (m2 : Int)] : List Value) ++ (([.int .u64 (m3 : Int)] : List Value) ++ (([.int .u64 (m4 : Int)] : List Value) ++ (([.int .i64 (wrap64 (m5 : Int))] : List Value) ++ (([.int .i64 (wrap64 (m6 : Int))] : List Value) ++ (q7 ++ (([.int .i64 (wrap64 (m8 : Int))] : List Value) ++ (([o9] : List Value) ++ [])))))))))) := by simp
        obtain ⟨C, hC⟩ : ∃ C, C = (([.int .i64 (wrap64 (m0 : Int))] : List Value) ++ (([.int .u64 (m1 : Int)] : List Value) ++ (([.int .u64 (m2 : Int)] : List Value) ++ (([.int .u64 (m3 : Int)] : List Value) ++ (([.int .u64 (m4 : Int)] : List Value) ++ (([.int .i64 (wrap64 (m5 : Int))] : List Value) ++ (([.int .i64 (wrap64 (m6 : Int))] : List Value) ++ (q7 ++ (([.int .i64 (wrap64 (m8 : Int))] : List Value) ++ (([o9] : List Value) ++ [])))))))))) := ⟨_, rfl⟩
        rw [← hC] at htup hpre
        have hX := HX12.out
        rw [hpre, List.append_nil] at hX
        have HX := Lib.hid hX
        have hCl : C.length = 41 := htup.1
        have HI := Lib.hid (zrTx_sized hCl)
        have HL := Lib.hid (show zrTx.length = C.length from by rw [hCl]; exact zrTx_len)
        have H1 := Lib.hid htup.2.1
        have HT := Lib.hid htup
        clear hout htup hpre hX hCl hC ho0 ho1 ho2 ho3 ho4 ho5 ho6 ho7 ho8 ho9 hkb7
        go_wp2_with (first
          | (refine wpList_load_blk' rfl 72 _ rfl HX.out rfl Tryz.underlying72 rfl HI.out ?_)
          | (refine wpList_store_blk (cs0 := zrTx) (cs := C) rfl 72 _ _ rfl HRR.out rfl rfl HL.out HI.out H1.out ?_; intro w9 hb9 hc9; have HB9 := Lib.hid hb9; have HC9 := Lib.hid hc9; clear hb9 hc9))
        have hld := run_loadVar_mid (P := Tryz.prog) w9 w.heap.size 0 72 C _ HB9.out.range Tryz.underlying72 rfl HI.out
        refine bodyPost_ret (v := .tuple #[.agg (C).toArray, .bool true]) (by simp [results, Tryz.results23, asAddr, hld]) rfl ?_
        exact ⟨HB0.out.trans (HC9.out.below HB0.out.size fun b h => Nat.le_of_eq h.symm), C, false, rfl, HT.out.nw (w' := w9) (k' := w.heap.size) (fun b hb hlt => ⟨ltle hlt HC9.out.size, HC9.out.block b hlt fun e => by have e : b = w.heap.size := e; omega⟩) (by omega), fun h => by cases h⟩
      · refine Lib.hid ?_
        have HRR := Lib.hid ((HR1.out.chg HP12.out (fun h => by have h : w.heap.size = w1.heap.size := h; omega)))
        have HB0 := Lib.hid (HB1.out.trans (HP12.out.below HB1.out.size fun b h => by have h : b = w1.heap.size := h; omega))
        have hkb7 : ∀ b, w9.heap.size ≤ b → b < wa7.heap.size → b < w10.heap.size ∧ w10.heap[b]? = wa7.heap[b]? := fun b hb hlt => ⟨ltle hlt HCD7.out.size, HCD7.out.block b hlt fun e => by have e : b = w1.heap.size := e; omega⟩
        have ho0 : SOut i64 w3 (Nw w2.heap.size w3) r0 ([.int .i64 (wrap64 (m0 : Int))] : List Value) false g0 := (HS0.out w3 (Nw w2.heap.size w3))
        have ho1 : SOut u64 w4 (Nw w3.heap.size w4) r1 ([.int .u64 (m1 : Int)] : List Value) g0 k1 := (HS1.out w4 (Nw w3.heap.size w4)).orr g0 k1 HK1.out
        have ho2 : SOut u64 w5 (Nw w4.heap.size w5) r2 ([.int .u64 (m2 : Int)] : List Value) k1 k2 := (HS2.out w5 (Nw w4.heap.size w5)).orr k1 k2 HK2.out
        have ho3 : SOut u64 w6 (Nw w5.heap.size w6) r3 ([.int .u64 (m3 : Int)] : List Value) k2 k3 := (HS3.out w6 (Nw w5.heap.size w6)).orr k2 k3 HK3.out
        have ho4 : SOut u64 w7 (Nw w6.heap.size w7) r4 ([.int .u64 (m4 : Int)] : List Value) k3 k4 := (HS4.out w7 (Nw w6.heap.size w7)).orr k3 k4 HK4.out
        have ho5 : SOut i64 w8 (Nw w7.heap.size w8) r5 ([.int .i64 (wrap64 (m5 : Int))] : List Value) k4 k5 := (HS5.out w8 (Nw w7.heap.size w8)).orr k4 k5 HK5.out
        have ho6 : SOut i64 w9 (Nw w8.heap.size w9) r6 ([.int .i64 (wrap64 (m6 : Int))] : List Value) k5 k6 := (HS6.out w9 (Nw w8.heap.size w9)).orr k5 k6 HK6.out
        have ho7 : SOut .dig w10 (Nw w9.heap.size w10) r7 q7 k6 k7 := (HS7.out.nw (k' := w9.heap.size) (w' := w10) hkb7 (Nat.le_refl _)).orr k6 k7 HK7.out
        have ho8 : SOut i64 w11 (Nw w10.heap.size w11) r8 ([.int .i64 (wrap64 (m8 : Int))] : List Value) k7 k8 := (HS8.out w11 (Nw w10.heap.size w11)).orr k7 k8 HK8.out
        have ho9 : SOut (.list tFact) w12 (Nw w11.heap.size w12) r9 ([o9] : List Value) k8 true := (HS9.out.nw (k' := w11.heap.size) (fun b _ hlt => ⟨hlt, rfl⟩) hzt9)
        have hout : Fs.Out (.cons i64 (.cons u64 (.cons u64 (.cons u64 (.cons u64 (.cons i64 (.cons i64 (.cons .dig (.cons i64 (.cons (.list tFact) .nil)))))))))) w12 (Nw (w.heap.size + 1) w12) [r0, r1, r2, r3, r4, r5, r6, r7, r8, r9] (([.int .i64 (wrap64 (m0 : Int))] : List Value) ++ (([.int .u64 (m1 : Int)] : List Value) ++ (([.int .u64 (m2 : Int)] : List Value) ++ (([.int .u64 (m3 : Int)] : List Value) ++ (([.int .u64 (m4 : Int)] : List Value) ++ (([.int .i64 (wrap64 (m5 : Int))] : List Value) ++ (([.int .i64 (wrap64 (m6 : Int))] : List Value) ++ (q7 ++ (([.int .i64 (wrap64 (m8 : Int))] : List Value) ++ (([o9] : List Value) ++ [])))))))))) false true := Fs.Out.stepR ho0 (Fs.Out.stepR ho1 (Fs.Out.stepR ho2 (Fs.Out.stepR ho3 (Fs.Out.stepR ho4 (Fs.Out.stepR ho5 (Fs.Out.stepR ho6 (Fs.Out.stepR ho7 (Fs.Out.stepR ho8 (Fs.Out.stepR ho9 (Fs.Out.nil_ w12 _ _) (Chg.refl (fun k => k = w1.heap.size) _) (by omega) (by omega)) HC11.out (by omega) (by omega)) (HC10.out.trans HC11.out fun b h => .inl h) (by omega) (by omega)) ((HC9.out.trans HC10.out fun b h => .inl h).trans HC11.out fun b h => .inl h) (by omega) (by omega)) (((HC8.out.trans HC9.out fun b h => .inl h).trans HC10.out fun b h => .inl h).trans HC11.out fun b h => .inl h) (by omega) (by omega)) ((((HC7.out.trans HC8.out fun b h => .inl h).trans HC9.out fun b h => .inl h).trans HC10.out fun b h => .inl h).trans HC11.out fun b h => .inl h) (by omega) (by omega)) (((((HC6.out.trans HC7.out fun b h => .inl h).trans HC8.out fun b h => .inl h).trans HC9.out fun b h => .inl h).trans HC10.out fun b h => .inl h).trans HC11.out fun b h => .inl h) (by omega) (by omega)) ((((((HC5.out.trans HC6.out fun b h => .inl h).trans HC7.out fun b h => .inl h).trans HC8.out fun b h => .inl h).trans HC9.out fun b h => .inl h).trans HC10.out fun b h => .inl h).trans HC11.out fun b h => .inl h) (by omega) (by omega)) (((((((HC4.out.trans HC5.out fun b h => .inl h).trans HC6.out fun b h => .inl h).trans HC7.out fun b h => .inl h).trans HC8.out fun b h => .inl h).trans HC9.out fun b h => .inl h).trans HC10.out fun b h => .inl h).trans HC11.out fun b h => .inl h) (by omega) (by omega)) ((((((((HC3.out.trans HC4.out fun b h => .inl h).trans HC5.out fun b h => .inl h).trans HC6.out fun b h => .inl h).trans HC7.out fun b h => .inl h).trans HC8.out fun b h => .inl h).trans HC9.out fun b h => .inl h).trans HC10.out fun b h => .inl h).trans HC11.out fun b h => .inl h) (by omega) (by omega)
        have htup : SOut tTx w12 (Nw (w.heap.size + 1) w12) bs (([.int .i64 (wrap64 (m0 : Int))] : List Value) ++ (([.int .u64 (m1 : Int)] : List Value) ++ (([.int .u64 (m2 : Int)] : List Value) ++ (([.int .u64 (m3 : Int)] : List Value) ++ (([.int .u64 (m4 : Int)] : List Value) ++ (([.int .i64 (wrap64 (m5 : Int))] : List Value) ++ (([.int .i64 (wrap64 (m6 : Int))] : List Value) ++ (q7 ++ (([.int .i64 (wrap64 (m8 : Int))] : List Value) ++ (([o9] : List Value) ++ [])))))))))) false true := Fs.Out.tup (n := 10) hout (.inl ⟨rfl, HSP.out⟩) fun l x h => Fs.decs_len _ l x h
        have HNO := Lib.hid (show Sh.dec tTx bs = none from by
          rcases htup.2.2 with ⟨_, _, h, _⟩ | ⟨h, _⟩
          · cases h
          · exact h)
        clear hout htup ho0 ho1 ho2 ho3 ho4 ho5 ho6 ho7 ho8 ho9 hkb7
        go_wp2_with (refine wpList_store_blk (cs0 := zrTx) (cs := zrTx) rfl 72 _ _ rfl HRR.out rfl rfl rfl zrTx_size zrTx_one ?_; intro w9 hb9 hc9; have HB9 := Lib.hid hb9; have HC9 := Lib.hid hc9; clear hb9 hc9)
        have hld := run_loadVar_mid (P := Tryz.prog) w9 w.heap.size 0 72 zrTx _ HB9.out.range Tryz.underlying72 rfl zrTx_size
        refine bodyPost_ret (v := .tuple #[.agg (zrTx).toArray, .bool false]) (by simp [results, Tryz.results23, asAddr, hld]) rfl ?_
        exact ⟨HB0.out.trans (HC9.out.below HB0.out.size fun b h => Nat.le_of_eq h.symm), _, true, rfl, ⟨zrTx_len, zrTx_one, .inr ⟨HNO.out, rfl⟩⟩, fun _ => rfl⟩
end
section
open Go.RowKit Go.Maps
attribute [-simp] Tryz.isAgg36 Tryz.typeInfo36 Tryz.isAgg72 Tryz.typeInfo72
set_option maxHeartbeats 8000000 in
set_option maxRecDepth 100000 in
theorem read_Tx (w : World) {S : Nat → Prop} {v : Value} {bs : List UInt8} {sent : Value} (h : Bs w S v bs) (hlen : bs.length ≤ 1099511627776) (hp : Pk w sent) :
    Calls Tryz.prog 5 #[.int .i64 5, v] w (ReadAns w bs) := by
  have HF := Lib.hid (ReadTx_any w h hp)
  have HB := Lib.hid h
  have HLEN := Lib.hid hlen
  obtain ⟨A, cap, rfl⟩ := h.form
  clear h hlen hp
  go_enter Tryz.func5, Tryz.ntmps5
  go_wp2_with fail
  refine HF.out.mono ?_
  rintro e w1 ⟨hb1, C, n, rfl, hCl, hC1, hn⟩
  have hCl : C.length = 41 := hCl
  have HZL := Lib.hid (show zrTx.length = C.length from by rw [hCl]; exact zrTx_len)
  have HCI := Lib.hid (zrTx_sized hCl)
  have HC1 := Lib.hid hC1
  have HN := Lib.hid hn
  have HB1 := Lib.hid hb1
  have HBB := Lib.hid (HB.out.below hb1)
  have hz1 := hb1.size
  clear hCl hC1 hn hb1 HF
  go_wp2_with (refine wpList_store_blk (cs0 := zrTx) (cs := C) rfl 72 _ _ rfl (Blk.new w1 _ _) rfl rfl HZL.out HCI.out HC1.out ?_; intro w2 hyy hcc; have HX2 := Lib.hid hyy; have HCw2 := Lib.hid (show Chg (fun _ => False) w1 w2 from ((Chg.refl _ w1).alloc _).trans hcc fun b h => .inr (Nat.le_of_eq h.symm)); clear hyy hcc)
  have hz2 := HCw2.out.size
  have HB2 := Lib.hid (HB1.out.trans (HCw2.out.below HB1.out.size fun b h => h.elim))
  refine (rReadTx_any w2 (HBB.out.chg HCw2.out fun _ _ h => h) HLEN.out).mono ?_
  rintro e w3 ⟨hb3, D, g, rfl, hs, hzz⟩
  have hDl : D.length = 41 := hs.1
  have HZD := Lib.hid (show zrTx.length = D.length from by rw [hDl]; exact zrTx_len)
  have HDI := Lib.hid (zrTx_sized hDl)
  have HD1 := Lib.hid hs.2.1
  have HS := Lib.hid hs
  have HZZ := Lib.hid hzz
  have HX3 := Lib.hid (HX2.out.below hb3 HX2.out.lt)
  have HB23 := Lib.hid hb3
  have HB3 := Lib.hid (HB2.out.trans (hb3.mono HB2.out.size))
  have hz3 := hb3.size
  clear hDl hs hzz hb3 HBB HX2
  by_cases hn0 : n = 0
  · subst hn0
    obtain ⟨hbl, x, hdx, hrx⟩ : bs.length ≤ 262144 ∧ ∃ x, Sh.dec tTx bs = some x ∧ Sh.rep w1 (fun b => w.heap.size ≤ b) tTx x C := by
      rcases HN.out with ⟨_, h⟩ | ⟨hb, ⟨x, h1, _, h3⟩ | ⟨_, h⟩⟩
      · cases h
      · exact ⟨hb, x, h1, h3⟩
      · cases h
    obtain ⟨rfl, hry⟩ : g = false ∧ Sh.rep w3 (Nw w2.heap.size w3) tTx x D := by
      rcases HS.out.2.2 with ⟨y, h1, h2, h3⟩ | ⟨h1, _⟩
      · rw [hdx] at h1; injection h1 with h1; subst h1; exact ⟨h2, h3⟩
      · rw [hdx] at h1; cases h1
    have hex : Sh.enc tTx x = bs := (Sh.enc_dec _ _ _ hdx).1
    have HEX := Lib.hid hex
    have HLX := Lib.hid (show (Sh.enc tTx x).length ≤ 1099511627776 by rw [hex]; exact HLEN.out)
    have HBL := Lib.hid hbl
    have HRX := Lib.hid (Sh.rep_below (Sh.rep_chg hrx HCw2.out fun _ _ h => h) HB23.out)
    have HRY := Lib.hid hry
    clear hdx hrx hry hex hbl HN HS HZZ
    go_simp
    go_wp2_with (refine wpList_store_blk (cs0 := zrTx) (cs := D) rfl 72 _ _ rfl (Blk.new w3 _ _) rfl rfl HZD.out HDI.out HD1.out ?_; intro w4 hyy hcc; have HY4 := Lib.hid hyy; have HCw4 := Lib.hid (show Chg (fun _ => False) w3 w4 from ((Chg.refl _ w3).alloc _).trans hcc fun b h => .inr (Nat.le_of_eq h.symm)); clear hyy hcc)
    have hx := (HX3.out.chg HCw4.out id).drew
    have hy := HY4.out.drew
    have hb := (HB3.out.trans (HCw4.out.below HB3.out.size fun b h => h.elim)).drew
    have hb4 : Below w4.heap.size w4 w4.drew := (Below.refl _ w4).drew
    have hrx := Sh.rep_below (Sh.rep_chg HRX.out HCw4.out fun _ _ h => h) hb4
    have hry := Sh.rep_below (Sh.rep_chg HRY.out HCw4.out fun _ _ h => h) hb4
    have hz4 := HCw4.out.size
    refine wp_region_segsV [([0, 2, 3, 5], [1]), ([], [4]), ([6, 7, 8, 9], [])] (by kernel_rfl) (by kernel_rfl) (by kernel_rfl) (by kernel_rfl)
      (SegV.mk (fun w' => Blk w' w1.heap.size 72 C.toArray ∧ Blk w' w3.heap.size 72 D.toArray) (fun _ _ => trivial) ⟨hx, hy⟩ ?_)
    (refine HoistK.load (by rfl) (by kernel_rfl) 72 _ rfl w1.heap.size 0 rfl C _ (fun w' hw => hw.1.range) Tryz.underlying72 rfl HCI.out ?_; simp only [Act.put, setIfInBounds_toArray, getElem_toArray, getElem_cons_zero, set_cons_succ, set_cons_zero])
    (refine HoistK.yes (by rfl) (by kernel_rfl) ⟨?_, fun w' hSw => ?_, ?_⟩; rotate_left; (· go_simp; try with_reducible rfl); simp only [Act.put, setIfInBounds_toArray, getElem_toArray, getElem_cons_succ, getElem_cons_zero, set_cons_succ, set_cons_zero])
    (refine HoistK.load (by rfl) (by kernel_rfl) 72 _ rfl w3.heap.size 0 rfl D _ (fun w' hw => hw.2.range) Tryz.underlying72 rfl HDI.out ?_; simp only [Act.put, setIfInBounds_toArray, getElem_toArray, getElem_cons_succ, getElem_cons_zero, set_cons_succ, set_cons_zero])
    (refine HoistK.yes (by rfl) (by kernel_rfl) ⟨?_, fun w' hSw => ?_, ?_⟩; rotate_left; (· go_simp; try with_reducible rfl); simp only [Act.put, setIfInBounds_toArray, getElem_toArray, getElem_cons_succ, getElem_cons_zero, set_cons_succ, set_cons_zero])
    refine HoistK.nil_ ?_
    simp only [opsAt, filterMap_cons, filterMap_nil, getElem?_toArray, getElem?_cons_succ, getElem?_cons_zero]
    refine EffS.cons_ fun _ hQ => ?_
    go_wp2_with fail
    refine (rTx_any _ hrx HLX.out).mono ?_
    rintro e w5 ⟨v5, rfl, f5⟩
    rw [HEX.out] at f5
    obtain ⟨A5, c5, rfl⟩ := f5.1.form
    have hx5 := hx.below f5.2 hx.lt
    have hy5 := hy.below f5.2 hy.lt
    have hb5 := hb.trans (f5.2.mono hb.size)
    have hry5 := Sh.rep_below hry f5.2
    have hw5 := f5.1.sub (T := fun b => w.heap.size ≤ b) fun b hb' _ => Nat.le_trans hb.size hb'.1
    clear f5
    go_wp2_with fail
    refine hQ _ _ ⟨hx5, hy5⟩ (EffS.nil_ (SegV.mk (fun w' => (Blk w' w1.heap.size 72 C.toArray ∧ Blk w' w3.heap.size 72 D.toArray) ∧ Bs w' (fun b => w.heap.size ≤ b) (.slice A5 bs.length c5) bs) (fun _ h => h.1) ⟨⟨hx5, hy5⟩, hw5⟩ ?_))
    refine HoistK.nil_ ?_
    simp only [opsAt, filterMap_cons, filterMap_nil, getElem?_toArray, getElem?_cons_succ, getElem?_cons_zero]
    refine EffS.cons_ fun _ hQ => ?_
    go_wp2_with fail
    refine (rTx_any _ hry5 HLX.out).mono ?_
    rintro e w6 ⟨v6, rfl, f6⟩
    rw [HEX.out] at f6
    obtain ⟨A6, c6, rfl⟩ := f6.1.form
    have hx6 := hx5.below f6.2 hx5.lt
    have hy6 := hy5.below f6.2 hy5.lt
    have hb6 := hb5.trans (f6.2.mono hb5.size)
    have hw56 := hw5.below f6.2
    have hw6 := f6.1.sub (T := fun b => w.heap.size ≤ b) fun b hb' _ => Nat.le_trans hb5.size hb'.1
    clear f6
    go_wp2_with fail
    refine hQ _ _ ⟨⟨hx6, hy6⟩, hw56⟩ (EffS.nil_ (SegV.mk (fun w' => ((Blk w' w1.heap.size 72 C.toArray ∧ Blk w' w3.heap.size 72 D.toArray) ∧ Bs w' (fun b => w.heap.size ≤ b) (.slice A5 bs.length c5) bs) ∧ Bs w' (fun b => w.heap.size ≤ b) (.slice A6 bs.length c6) bs) (fun _ h => h.1) ⟨⟨⟨hx6, hy6⟩, hw56⟩, hw6⟩ ?_))
    iterate 4 (refine HoistK.yes (by rfl) (by kernel_rfl) ⟨?_, fun w' hSw => ?_, ?_⟩; rotate_left; (· go_simp; try with_reducible rfl); simp only [Act.put, setIfInBounds_toArray, getElem_toArray, getElem_cons_succ, getElem_cons_zero, set_cons_succ, set_cons_zero])
    refine HoistK.nil_ ?_
    simp only [opsAt, filterMap_nil, getElem?_toArray]
    refine EffS.nil_ fun _ hQ => ?_
    go_wp2_with fail
    ((try simp only [Exit.inBlock, Exit.then]); refine bodyPost_ret (results_tmp4 rfl _ _ _) rfl ?_)
    exact ⟨hb6, _, _, 0, true, rfl, .inr ⟨HBL.out, .inl ⟨rfl, rfl, hw56, hw6⟩⟩⟩
  · obtain ⟨x, hrx, hlx⟩ : ∃ x, Sh.rep w3 (Nw w2.heap.size w3) tTx x D ∧ (Sh.enc tTx x).length ≤ 1099511627776 := by
      rcases HS.out.2.2 with ⟨x, h1, _, h3⟩ | ⟨_, h2⟩
      · exact ⟨x, h3, by rw [(Sh.enc_dec _ _ _ h1).1]; exact HLEN.out⟩
      · rw [HZZ.out h2]
        exact ⟨Sh.zel tTx, Sh.zel_rep w3 _ tTx, by rw [Sh.zel_len]; decide⟩
    have hans : (262144 < bs.length ∧ n = 4) ∨ (bs.length ≤ 262144 ∧ n = 5 ∧ g = true) := by
      rcases HN.out with h | ⟨hb, ⟨_, _, h, _⟩ | ⟨h1, h2⟩⟩
      · exact .inl h
      · exact absurd h hn0
      · refine .inr ⟨hb, h2, ?_⟩
        rcases HS.out.2.2 with ⟨y, h3, _, _⟩ | ⟨_, h3⟩
        · rw [h1] at h3; cases h3
        · exact h3
    have HANS := Lib.hid hans
    have HRX := Lib.hid hrx
    have HLX := Lib.hid hlx
    clear hans hrx hlx HN HS HZZ
    go_simp
    go_wp2_with (first
      | (refine wpList_store_blk (cs0 := zrTx) (cs := D) rfl 72 _ _ rfl (Blk.new w3 _ _) rfl rfl HZD.out HDI.out HD1.out ?_; intro w4 hyy hcc; have HY4 := Lib.hid hyy; have HCw4 := Lib.hid (show Chg (fun _ => False) w3 w4 from ((Chg.refl _ w3).alloc _).trans hcc fun b h => .inr (Nat.le_of_eq h.symm)); clear hyy hcc)
      | (refine wpList_load_blk' rfl 72 _ rfl HY4.out rfl Tryz.underlying72 rfl HDI.out ?_))
    have hb4 := HB3.out.trans (HCw4.out.below HB3.out.size fun b h => h.elim)
    refine (rTx_any _ (Sh.rep_chg HRX.out HCw4.out fun _ _ h => h) HLX.out).mono ?_
    rintro e w5 ⟨v5, rfl, f5⟩
    have hb5 := hb4.trans (f5.2.mono hb4.size)
    clear f5
    go_wp2_with fail
    ((try simp only [Exit.inBlock, Exit.then]); refine bodyPost_ret (results_tmp4 rfl _ _ _) rfl ?_)
    refine ⟨hb5, _, _, n, !g, rfl, ?_⟩
    rcases HANS.out with h | ⟨h1, h2, h3⟩
    · exact .inl h
    · exact .inr ⟨h1, .inr ⟨h2, by rw [h3]; rfl⟩⟩
end
section
open Go.RowKit Go.Maps
attribute [-simp] Tryz.isAgg36 Tryz.typeInfo36 Tryz.isAgg38 Tryz.typeInfo38
theorem size_oneHeader_any : (Tryz.prog.info? 38).map (·.size) = some 101 := by kernel_rfl
set_option maxHeartbeats 4000000 in
set_option maxRecDepth 100000 in
theorem oneHeader_any (w : World) {X : Nat → Prop} {E g : Nat} {sent : Value} {x : List UInt8} {rows : List (List UInt8)} {bad : Bool} (h : Pt w X E g sent (x :: rows) bad) (hxl : x.length ≤ 262144) :
    Calls Tryz.prog 92 #[.pointer (some ⟨g, 0, none⟩), .func (Fn.func 44) #[] #[]] w (Took tHeader w X E g sent x rows bad) := by
  have hgx := h.2.2.1
  have hgw := h.lt
  have hEw := h.2.2.2.2.1
  have hp0 := h.more ((Below.refl w.heap.size w).alloc (Nat.le_refl _) (.cells (([.int .i64 0, .int .i64 0, .int .i64 0, .int .i64 0] ++ List.replicate 96 (.int .u8 0) ++ [.int .i64 0] : List Value)).toArray 38)) (fun b => b = w.heap.size) (fun b hb => ⟨Nat.le_of_eq hb.symm, by rw [hb]; simp⟩)
  have H := Lib.hid (next_any _ hp0)
  have HN := Lib.hid (Blk.new w 38 (([.int .i64 0, .int .i64 0, .int .i64 0, .int .i64 0] ++ List.replicate 96 (.int .u8 0) ++ [.int .i64 0] : List Value)).toArray)
  have HGX := Lib.hid hgx
  have HX1 := Lib.hid (show ∀ b, X b → b < w.heap.size from h.2.2.2.1)
  clear h hp0 hgx
  go_enter Tryz.func92, Tryz.ntmps92
  go_wp2_with fail
  refine H.out.mono ?_
  rintro e w1 ⟨v1, rfl, hb1, hc1, hp1⟩
  have HK := Lib.hid (HN.out.chg hc1 (fun h => by omega))
  have hz1 : w.heap.size + 1 ≤ w1.heap.size := by simpa using hc1.size
  have HR := Lib.hid (readHeader_any w1 hb1 hxl hp1.1)
  have HC1 := Lib.hid (show Chg (fun k => k = g) w w1 from ((Chg.refl (fun k => k = g) w).alloc _).trans hc1 fun b h => .inl h)
  have HP1 := Lib.hid hp1
  obtain ⟨A1, c1, rfl⟩ := hb1.form
  clear hb1 hp1 hc1 H HN hxl
  go_wp2_with fail
  refine HR.out.mono ?_
  rintro e w2 hro
  obtain ⟨C, err, bd, rfl, h1, hl, hb2, he, ho⟩ := hro.agg (fun _ => rfl)
  have hl : C.length = 101 := hl
  have hz2 := Nat.le_trans hz1 hb2.size
  have HI := Lib.hid (show (Tryz.prog.info? 38).map (·.size) = some C.length from by rw [hl]; exact size_oneHeader_any)
  have H1 := Lib.hid h1
  have HL := Lib.hid hl
  have HP2 := Lib.hid (HP1.out.below hb2)
  have HK2 := Lib.hid (HK.out.below hb2 HK.out.lt)
  have HC2 := Lib.hid (HC1.out.trans (Chg.of_below hb2 fun k => k = g) fun b h => .inl h)
  have HO := Lib.hid (ho.or_ bad)
  clear hro h1 hl hb2 ho HR HP1 HK HC1
  rcases he with ⟨rfl, rfl⟩ | ⟨rfl, hch⟩
  · go_wp2_with (first
      | (refine wpList_store_blk (cs0 := ([.int .i64 0, .int .i64 0, .int .i64 0, .int .i64 0] ++ List.replicate 96 (.int .u8 0) ++ [.int .i64 0] : List Value)) (cs := C) rfl 38 _ _ rfl (Blk.new w2 _ _) rfl rfl (by rw [HL.out]; rfl) HI.out H1.out ?_; intro w3 hb3 hc3; have HB3 := Lib.hid hb3
         have HC3 := Lib.hid (show Chg (fun _ => False) w2 w3 from ((Chg.refl _ w2).alloc _).trans hc3 fun b h => .inr (Nat.le_of_eq h.symm)); clear hb3 hc3
         have HK3 := Lib.hid (HK2.out.chg HC3.out id))
      | (refine wpList_load_blk' rfl 38 _ rfl HB3.out rfl Tryz.underlying38 rfl HI.out ?_)
      | (refine wpList_store_blk (cs0 := ([.int .i64 0, .int .i64 0, .int .i64 0, .int .i64 0] ++ List.replicate 96 (.int .u8 0) ++ [.int .i64 0] : List Value)) (cs := C) rfl 38 _ _ rfl HK3.out rfl rfl (by rw [HL.out]; rfl) HI.out H1.out ?_; intro w9 hb9 hc9; have HB9 := Lib.hid hb9; have HC9 := Lib.hid hc9; clear hb9 hc9))
    have hld := run_loadVar_mid (P := Tryz.prog) w9 w.heap.size 0 38 C _ HB9.out.range Tryz.underlying38 rfl HI.out
    refine bodyPost_ret (v := .agg C.toArray) (by simp [results, Tryz.results92, asAddr, hld, Act.put]) rfl ?_
    have hp9 := (HP2.out.chg HC3.out fun b h => h.elim).chg HC9.out fun b h => ⟨.inr h, fun e => by omega⟩
    have ho9 := HO.out.nw (w' := w9) (k' := w.heap.size) (fun b hb hlt => ⟨ltle hlt (Nat.le_trans HC3.out.size HC9.out.size), (HC9.out.block b (ltle hlt HC3.out.size) (fun e => by omega)).trans (HC3.out.block b hlt id)⟩) (by omega)
    rw [Bool.or_false] at ho9
    exact ⟨C, bad, rfl, (HC2.out.trans (HC3.out.mono (M' := fun k => k = g) fun _ h => h.elim) fun b h => .inl h).trans HC9.out fun b h => .inr (Nat.le_of_eq h.symm), hp9.less (fun b h => .inl h) HGX.out, ho9⟩
  · obtain ⟨gw, rfl⟩ := hch.form
    have HCH := Lib.hid hch; clear hch
    go_wp2_with (first
      | (refine wpList_store_blk (cs0 := ([.int .i64 0, .int .i64 0, .int .i64 0, .int .i64 0] ++ List.replicate 96 (.int .u8 0) ++ [.int .i64 0] : List Value)) (cs := C) rfl 38 _ _ rfl (Blk.new w2 _ _) rfl rfl (by rw [HL.out]; rfl) HI.out H1.out ?_; intro w3 hb3 hc3; have HB3 := Lib.hid hb3
         have HC3 := Lib.hid (show Chg (fun _ => False) w2 w3 from ((Chg.refl _ w2).alloc _).trans hc3 fun b h => .inr (Nat.le_of_eq h.symm)); clear hb3 hc3
         have HK3 := Lib.hid (HK2.out.chg HC3.out id)))
    have hp3 := (HP2.out.chg HC3.out fun b h => h.elim)
    have hlx := hp3.2.2.2.1
    have hz3 := Nat.le_trans hz2 HC3.out.size
    have hal := (Below.refl w3.heap.size w3).alloc (Nat.le_refl _) (.cells #[.string ⟨#[119, 105, 116, 104, 105, 110]⟩, .iface 154 (.pointer (some ⟨gw, 0, none⟩))] 158)
    have hch3 := (HCH.out.to (w' := w3) (S' := fun b => ¬ (X b ∨ b = w.heap.size) ∧ E ≤ b) (fun b hb hlt => ⟨ltle hlt HC3.out.size, HC3.out.block b hlt id⟩) fun b hb hlt => ⟨fun h => h.elim (fun h => by have := HP2.out.2.2.2.1 b (.inl h); have := HX1.out b h; omega) fun h => by omega, by omega⟩)
    have HBAD := Lib.hid (bad_any _ (hp3.below hal) (hch3.freshMore _ ⟨fun h => absurd (hlx _ h) (Nat.lt_irrefl _), by omega⟩))
    clear hp3 hlx hal hch3
    refine HBAD.out.mono ?_
    rintro e w4 ⟨rfl, hc4, hp4⟩
    have HC4 := Lib.hid hc4
    have HP4 := Lib.hid hp4
    have hgg : ¬ w.heap.size = g := by omega
    have HK4 := Lib.hid ((HK3.out.alloc _).chg hc4 (fun h => hgg h))
    have HB4 := Lib.hid ((HB3.out.alloc _).chg hc4 (fun h => by omega))
    clear hc4 hp4 HBAD
    go_wp2_with (first
      | (refine wpList_load_blk' rfl 38 _ rfl HB4.out rfl Tryz.underlying38 rfl HI.out ?_)
      | (refine wpList_store_blk (cs0 := ([.int .i64 0, .int .i64 0, .int .i64 0, .int .i64 0] ++ List.replicate 96 (.int .u8 0) ++ [.int .i64 0] : List Value)) (cs := C) rfl 38 _ _ rfl HK4.out rfl rfl (by rw [HL.out]; rfl) HI.out H1.out ?_; intro w9 hb9 hc9; have HB9 := Lib.hid hb9; have HC9 := Lib.hid hc9; clear hb9 hc9))
    have hld := run_loadVar_mid (P := Tryz.prog) w9 w.heap.size 0 38 C _ HB9.out.range Tryz.underlying38 rfl HI.out
    refine bodyPost_ret (v := .agg C.toArray) (by simp [results, Tryz.results92, asAddr, hld, Act.put]) rfl ?_
    have hc34 : Chg (fun k => k = g) w2 w4 := ((HC3.out.mono (M' := fun k => k = g) fun _ h => h.elim).alloc _).trans HC4.out fun b h => .inl h
    have hp9 := HP4.out.chg HC9.out fun b h => ⟨.inr h, fun e => by omega⟩
    have ho9 := HO.out.nw (w' := w9) (k' := w.heap.size) (fun b hb hlt => ⟨ltle hlt (Nat.le_trans hc34.size HC9.out.size), (HC9.out.block b (ltle hlt hc34.size) (fun e => by omega)).trans (hc34.block b hlt (fun e => by omega))⟩) (by omega)
    rw [Bool.or_true] at ho9
    exact ⟨C, true, rfl, (HC2.out.trans hc34 fun b h => .inl h).trans HC9.out fun b h => .inr (Nat.le_of_eq h.symm), hp9.less (fun b h => .inl h) HGX.out, ho9⟩
end
end Go.Proofs.YtjjgmkfkmckkoaaGreatDoor
