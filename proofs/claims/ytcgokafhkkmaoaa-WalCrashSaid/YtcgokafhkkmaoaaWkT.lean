/- Wal: fixed. -/
import Derived.Test.YtcgokafhkkmaoaaWkS
import Derived.Lib.SlBytesConst
namespace Go.Proofs.Ytcgokafhkkmaoaa
open Go.RowKit Go.Maps

attribute [-simp] Try.isAgg37 Try.sizeOf37 Try.typeInfo37

theorem WalI.with_ {D : DS} {L : LogS} (h : WalI D L) (m : List UInt8) : WalI D { L with more := m } := ⟨h.down, h.loose, h.byt, h.ok, h.fit, h.blk, h.num1, h.num2, h.ep, h.fin, h.area, h.mark, h.other, h.data⟩
theorem LogS.append_ok (L : LogS) (b : List UInt8) (h : ¬ L.left < 8 + b.length) : L.append b = ({ L with more := L.more ++ encR b }, 0) := by
  unfold LogS.append; rw [if_neg h, encR, List.append_assoc]
theorem new_byt (n : Int) : (DS.new n).Byt := ⟨(fun x hx => by cases hx), fun i l h => by cases h⟩

set_option maxHeartbeats 2000000 in
set_option maxRecDepth 100000 in
theorem fixed_any (w : World) : Calls Try.prog 6 #[] w fun e w' => e = .returned (.bool true) ∧ Below w.heap.size w w' := by
  obtain ⟨D1, hF1, hW1, _, hR1⟩ := formats (D := DS.new 8) (first := 1) (size := 5) rfl (by simp [DS.new]) (new_byt 8) (DS.Fine.new 8).ok (by simp [fitsB, DS.new]) (by simp [DS.new]) (by simp [DS.new])
  have HF1 := Lib.hid hF1; clear hF1
  have HW1 := Lib.hid hW1; clear hW1
  have hb1 : D1.blocks = 8 := hR1.2.1
  have hr1 : D1.room = 8 := hR1.1
  have hu1 : D1.fuse < 0 := hR1.2.2 (by simp [DS.new])
  have HB1 := Lib.hid hb1; clear hb1
  have HR1 := Lib.hid hr1; clear hr1 hR1
  have kc := fun (w : World) (C : Array Value) (n c : Nat) => Lib.run_convert_bytes_const (P := Try.prog) w 32 5 C n c Try.underlying32 Try.underlying5
  go_enter Try.func6, Try.ntmps6
  go_wp2_with fail
  refine (new_dk 8 (by omega) (by omega) w w (Nat.le_refl _)).mono ?_
  rintro e w1 ⟨p, T0, rfl, hd0, hb1, hT0⟩
  go_wp2_with fail
  refine (format_dk hd0 hb1.size (first := 1) (size := 5) (by omega) (by omega) (by omega) (by omega) (by simp [DS.new]) (by simp [DS.new]) (by omega)).mono ?_
  intro e w2 hP
  rw [HF1.out] at hP
  obtain ⟨rfl, T1, hd1, hm1⟩ := hP
  have hb2 : Below w.heap.size w w2 := hb1.trans (hm1.1.below hb1.size fun b hb => hd0.new b hb)
  have hF2 : formatF D1 0 2 = (D1, 1) := by unfold formatF; rw [if_neg (by simp [fitsB])]
  have HF2 := Lib.hid hF2; clear hF2
  go_wp2_with fail
  refine (format_dk hd1 hb2.size (first := 0) (size := 2) (by omega) (by omega) (by omega) (by omega) (by rw [HB1.out]; omega) (by rw [HB1.out]; omega) (by omega)).mono ?_
  intro e w3 hP
  rw [HF2.out] at hP
  obtain ⟨rfl, T2, hd2, hm2⟩ := hP
  have hb3 : Below w.heap.size w w3 := hb2.trans (hm2.1.below hb2.size fun b hb => hd1.new b hb)
  clear hd0 hd1 hm1 hm2 hT0 hb1 hb2
  go_wp2_with fail
  refine (open_wal (rows := []) hd2 hb3.size HW1.out rfl (by omega)).mono ?_
  rintro e w4 ⟨g, S, R, v, rfl, hl4, hv4, hS4, hR4, hSR4, hb34⟩
  have hb4 : Below w.heap.size w w4 := hb3.trans (hb34.mono hb3.size)
  obtain ⟨Av, cv, rfl⟩ := hv4.form
  go_wp2_with fail
  refine (left_any w4 g p S _ hl4.log (by simp) (by simp) (by simp) (by simp)).mono ?_
  rintro e w5 ⟨rfl, n5, rfl⟩
  have hl5 := hl4.below (below_drewN (Below.refl _ w4) n5)
  have hb5 := below_drewN hb4 n5
  rw [show max 0 (((5 : Int) - 2) * 256 - (([] : List UInt8).length : Int) - (([] : List UInt8).length : Int) - 8) = 760 by rw [List.length_nil]; rfl]
  generalize hw5 : w4.drewN n5 = w5 at *
  clear hw5 hl4 hb4 hv4 hR4 hSR4 hS4
  go_wp2_with fail
  refine (epoch_any w5 g p S _ hl5.log).mono ?_
  rintro e w6 ⟨rfl, rfl⟩
  go_wp2_with fail
  have hx := Cs.of_new' w6 5 (size := 1) 2 (cs := [.int .u8 97, .int .u8 98]) rfl (by simp [maxLen]) (2, 3)
  have hl6 := hl5.below ((Below.refl _ w6).alloc (Nat.le_refl _) (.cells #[.int .u8 97, .int .u8 98] 5 (2, 3)))
  have hb6 : Below w.heap.size w (w6.alloc (.cells #[.int .u8 97, .int .u8 98] 5 (2, 3))) := hb5.alloc hb5.size _
  have hA1 := LogS.append_ok { first := 1, size := 5, number := 1, epoch := 1, fin := 0, bytes := [], more := [] } [97, 98] (by simp [LogS.left])
  refine (append_ld hl6 [97, 98] _ (show Cs _ _ 1 _ 2 (u8s [97, 98]) from hx) (fun k hk e => by have := hl5.log.lt k hk; omega) (by simp) (by simp) (by simp) (by simp) (by simp)).mono ?_
  intro e w7 hP
  rw [hA1] at hP
  clear hA1
  obtain ⟨rfl, S7, hl7, hm7⟩ := hP
  have hb7 := hl6.out hm7 hb6
  clear hx hl5 hl6 hm7 hb6 hb5 hb34 hb3
  go_wp2_with fail
  have hA2 := LogS.append_ok { first := 1, size := 5, number := 1, epoch := 1, fin := 0, bytes := [], more := [] ++ encR [97, 98] } [] (by simp [LogS.left, encR_length])
  refine (append_ld (A := fun _ => False) hl7 [] _ (Cs.nil_ _ _ _) (fun _ _ h => h) (by simp) (by simp) (by simp) (by simp [encR_length]) (by simp)).mono ?_
  intro e w8 hP
  rw [hA2] at hP
  clear hA2
  obtain ⟨rfl, S8, hl8, hm8⟩ := hP
  have hb8 := hl7.out hm8 hb7
  have hmore : ([] : List UInt8) ++ encR [97, 98] ++ encR [] = enc [[97, 98], []] := by simp [enc]
  simp only [hmore] at hl8
  have hmlen : (enc [[97, 98], []]).length = 18 := by simp [enc, encR_length]
  clear hl7 hm8 hb7 hmore
  have HML := Lib.hid hmlen; clear hmlen
  go_wp2_with fail
  refine (left_any w8 g p S8 _ hl8.log (by simp) (by simp) (by simp) (by rw [HML.out]; omega)).mono ?_
  rintro e w9 ⟨rfl, n9, rfl⟩
  have hl9 := hl8.below (below_drewN (Below.refl _ w8) n9)
  have hb9 := below_drewN hb8 n9
  rw [HML.out, show max 0 (((5 : Int) - 2) * 256 - (([] : List UInt8).length : Int) - ((18 : Nat) : Int) - 8) = 742 by rw [List.length_nil]; rfl]
  generalize hw9 : w8.drewN n9 = w9 at *
  clear hw9 hl8 hb8
  go_wp2_with fail
  have hW9 := HW1.out.with_ (enc [[97, 98], []])
  rcases hW9.syncs (by rw [HML.out]; omega) (by simp only [List.nil_append]; rw [HML.out]; omega) (by simp) (by simp only [List.nil_append]; rw [HML.out, HR1.out]; omega) with ⟨D2, hs, hW2, _, hR2⟩ | ⟨hf, _⟩
  case inr => omega
  refine (sync_ld hl9 (by simp) (by simp) (by simp) (by simp) (by simp only [List.nil_append]; rw [HML.out]; omega) (by omega)).mono ?_
  intro e w10 hP
  rw [hs] at hP
  obtain ⟨rfl, S10, T10, hl10, hm10⟩ := hP
  have hb10 := hl9.out hm10 hb9
  have hcnt := LogS.count_le { first := 1, size := 5, number := 1, epoch := 1, fin := 0, bytes := [], more := enc [[97, 98], []] } (by simp only [List.nil_append]; rw [HML.out]; omega)
  have hd10 := hl10.dk
  clear hl9 hb9 hm10 hl10
  have HS := Lib.hid hs; clear hs
  go_wp2_with fail
  refine (open_wal (rows := [[97, 98], []]) hd10 hb10.size hW2 (by simp only [List.nil_append]; exact parse_enc _ (by simp)) (by omega)).mono ?_
  rintro e w11 ⟨g2, S11, R11, v11, rfl, _, hv11, _, hR11, _, hb1011⟩
  have hb11 : Below w.heap.size w w11 := hb10.trans (hb1011.mono hb10.size)
  have hr11 := hv11.read (by simp)
  obtain ⟨Aw, cw, rfl⟩ := hv11.form
  clear hb1011 hv11 hd10 hb10 hcnt
  go_wp2_with fail
  obtain ⟨wa, hwa⟩ : ∃ wa, wa = w11.alloc (.cells #[.int .u8 97, .int .u8 98] 5 (2, 3)) := ⟨_, rfl⟩
  obtain ⟨wb, hwb⟩ : ∃ wb, wb = wa.alloc (.cells #[] 5) := ⟨_, rfl⟩
  obtain ⟨wc, hwc⟩ : ∃ wc, wc = wb.alloc (.cells #[.slice (some ⟨w11.heap.size, 0, none⟩) 2 2, .slice (some ⟨w11.heap.size + 1, 0, none⟩) 0 0] 32) := ⟨_, rfl⟩
  rw [← hwa, ← hwb, ← hwc]
  have ha : Below w11.heap.size w11 wa := by rw [hwa]; exact (Below.refl _ w11).alloc (Nat.le_refl _) _
  have hsa : wa.heap.size = w11.heap.size + 1 := by rw [hwa]; simp
  have hab : Below wa.heap.size wa wb := by rw [hwb]; exact (Below.refl _ wa).alloc (Nat.le_refl _) _
  have hsb : wb.heap.size = w11.heap.size + 1 + 1 := by rw [hwb]; simp [hsa]
  have hbc : Below wb.heap.size wb wc := by rw [hwc]; exact (Below.refl _ wb).alloc (Nat.le_refl _) _
  have hbb : Below w11.heap.size w11 wb := ha.trans (hab.mono ha.size)
  have hcc : Below w11.heap.size w11 wc := hbb.trans (hbc.mono hbb.size)
  have hx : Bs wa (fun _ => True) (.slice (some ⟨w11.heap.size, 0, none⟩) 2 2) [97, 98] := by
    rw [hwa]
    exact ⟨(Cs.of_new' w11 5 (size := 1) 2 (cs := [.int .u8 97, .int .u8 98]) rfl (by simp [maxLen]) (2, 3)).sub fun _ _ _ => trivial, by simp⟩
  have hy : Bs wb (fun _ => True) (.slice (some ⟨w11.heap.size + 1, 0, none⟩) 0 0) [] := by
    rw [hwb, ← hsa]
    exact ⟨(Cs.of_new wa 5 (size := 1) 0 (cs := []) rfl (by simp [maxLen])).sub fun _ _ _ => trivial, by simp⟩
  have hrow : Bsr wc (fun _ => True) (.slice (some ⟨w11.heap.size + 1 + 1, 0, none⟩) 2 2) [[97, 98], []] := by
    refine ⟨[.slice (some ⟨w11.heap.size, 0, none⟩) 2 2, .slice (some ⟨w11.heap.size + 1, 0, none⟩) 0 0], ?_, fun i x u h1 h2 => ?_⟩
    · rw [hwc, ← hsb]
      exact (Cs.of_new wb 32 (size := 1) 2 (cs := [.slice (some ⟨w11.heap.size, 0, none⟩) 2 2, .slice (some ⟨w11.heap.size + 1, 0, none⟩) 0 0]) rfl (by simp [maxLen])).sub fun _ _ _ => trivial
    · rcases i with _ | _ | i
      · injection h1 with h1; injection h2 with h2; subst h1 h2
        exact (hx.below hab).below hbc
      · injection h1 with h1; injection h2 with h2; subst h1 h2
        exact hy.below hbc
      · simp at h1
  refine (same_any wc (hr11.below hcc) hrow).mono ?_
  rintro e w13 ⟨rfl, hb13⟩
  rw [show sameB [[97, 98], []] [[97, 98], []] = true by simp [sameB]]
  clear hwa hwb hwc hsa hsb
  go_wp2_with fail
  go_ret
  have h12 := hb11.trans (hcc.mono hb11.size)
  exact ⟨rfl, h12.trans (hb13.mono h12.size)⟩

end Go.Proofs.Ytcgokafhkkmaoaa
