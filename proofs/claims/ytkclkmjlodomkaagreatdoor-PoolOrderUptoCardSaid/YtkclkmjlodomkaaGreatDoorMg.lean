/- Texts joined: CrA CrB CrC CrE CrD CrF CrG CrH CrI CrK PmY PnP PnQ. -/
import Derived.Test.YtkclkmjlodomkaaGreatDoorMa
import Derived.Test.YtkclkmjlodomkaaGreatDoorMb
import Derived.Test.YtkclkmjlodomkaaGreatDoorMc
import Derived.Test.YtkclkmjlodomkaaGreatDoorMe
namespace Go.Proofs.YtkclkmjlodomkaaGreatDoor
open List (setIfInBounds_toArray getElem_toArray getElem_cons_succ getElem_cons_zero set_cons_succ set_cons_zero filterMap_cons filterMap_nil getElem?_toArray getElem?_cons_succ getElem?_cons_zero)
section
open Go.RowKit Go.Maps
theorem leBytes_get' : ∀ (k v i : Nat), i < k → (Lib.leBytes k v)[i]? = some ((v / 256 ^ i) % 256).toUInt8
  | 0, _, _, h => by omega
  | k + 1, v, 0, _ => by simp [Lib.leBytes]
  | k + 1, v, i + 1, h => by
    rw [Lib.leBytes, getElem?_cons_succ, leBytes_get' k (v / 256) i (by omega), Nat.div_div_eq_div_mul, Nat.pow_succ, Nat.mul_comm 256]
theorem be8_get (v i : Nat) (h : i < 8) : (be8 v)[i]? = some ((v / 2 ^ (56 - 8 * i)) % 256).toUInt8 := by
  rw [be8, Lib.beBytes, List.getElem?_reverse (by rw [Lib.leBytes_length]; omega), Lib.leBytes_length, leBytes_get' 8 v _ (by omega), show (256 : Nat) = 2 ^ 8 from rfl, ← Nat.pow_mul, show 8 * (8 - 1 - i) = 56 - 8 * i by omega]
theorem be8_byte (v i : Nat) (h : i < 8) : (((v / 2 ^ (56 - 8 * i)) % 256 : Nat) : Int) = (((be8 v)[i]'(by rw [be8_length]; exact h)).toNat : Int) := by
  have := be8_get v i h
  rw [List.getElem?_eq_getElem (by rw [be8_length]; exact h)] at this
  injection this with e
  rw [e, Nat.toUInt8, UInt8.toNat_ofNat']
  generalize v / 2 ^ (56 - 8 * i) = q
  congr 1
  omega
set_option maxHeartbeats 1000000 in
set_option maxRecDepth 100000 in
theorem rNum_any (w : World) (v : Nat) (_hv : v < 18446744073709551616) : Calls Tryz.prog 55 #[.int .u64 v] w fun e w' => ∃ v', e = .returned v' ∧ Fresh w w' v' (be8 v) := by
  have hby : ∀ k, k < 8 → ((v : Int) / 2 ^ (56 - 8 * k)) % 256 = (((be8 v).getD k 0).toNat : Int) := fun k hk => by
    have := be8_byte v k hk
    rw [List.getD_eq_getElem?_getD, List.getElem?_eq_getElem (by rw [be8_length]; exact hk), Option.getD_some, ← this]
    push_cast; rfl
  have hL : (be8 v).length = 8 := be8_length v
  obtain ⟨L, hLe⟩ : ∃ L, L = be8 v := ⟨_, rfl⟩
  rw [← hLe] at hby hL ⊢
  have HBY := Lib.hid hby
  have HL := Lib.hid hL
  clear hby hL hLe
  go_enter Tryz.func55, Tryz.ntmps55
  go_wp2_with fail
  go_loopw [3, 4] (fun o i wr => ∃ k : Nat, k ≤ 8 ∧ i = .int .i64 k ∧ Own wr 5 1 o k (u8s (L.take k)) ∧ (∀ b, o.ownBlock = some b → w.heap.size ≤ b) ∧ Below w.heap.size w wr) (fun _ i _ => 8 - (intOf i).toNat)
  case atStart =>
    have hal := (Below.refl w.heap.size w).alloc (Nat.le_refl _) (.cells #[] 5)
    exact ⟨0, by omega, rfl, Own.empty w 5 1, fun b hb => by simp [Value.ownBlock] at hb; omega, hal⟩
  case round =>
    obtain ⟨k, hk, rfl, ho, hob, hbl⟩ := hrel
    obtain ⟨Ao, co, rfl⟩ := ho.form
    have HO := Lib.hid ho
    have HOB := Lib.hid hob
    have HBL := Lib.hid hbl
    clear ho hob
    by_cases hlt : k < 8
    · have hbk := HBY.out k hlt
      obtain ⟨x, hx⟩ : ∃ x, x = L.getD k 0 := ⟨_, rfl⟩
      rw [← hx] at hbk
      have htk : L.take (k + 1) = L.take k ++ [x] := by
        rw [List.take_succ_eq_append_getElem (by rw [HL.out]; exact hlt), hx, List.getD_eq_getElem?_getD, List.getElem?_eq_getElem (by rw [HL.out]; exact hlt), Option.getD_some]
      have HTK := Lib.hid htk
      have hal := (Below.refl wr.heap.size wr).alloc (Nat.le_refl _) (.cells #[.int .u8 x.toNat] 5)
      have HAL := Lib.hid hal
      have HO2 := Lib.hid (show Own (wr.alloc (.cells #[.int .u8 x.toNat] 5)) 5 1 (.slice Ao k co) k (u8s (L.take k)) from own_keep HO.out fun b hb => hal.block b (own_lt HO.out hb))
      have HS2 := Lib.hid (Cs.of_new wr 5 (size := 1) 1 (cs := [.int .u8 x.toNat]) rfl (by simp only [maxLen]; decide))
      clear hx htk hal
      go_wp2_with (at_builtin; refine wpList_app _ rfl _ _ _ rfl Tryz.underlying77 info_u8 rfl (by decide) HO2.out rfl HS2.out rfl (by simp [Value.oneCell']) (by simp only [maxLen]; omega) (by omega) ?_; intro v6 w6 ho6 hc6 hnil6 hat6; clear hnil6; have HO6 := Lib.hid ho6; clear ho6; have HC6 := Lib.hid hc6; clear hc6; have HAT6 := Lib.hid hat6; clear hat6)
      have hsz := HBL.out.size
      have hsa := HAL.out.size
      refine ⟨⟨k + 1, by omega, by push_cast; rfl, by rw [HTK.out]; simpa [u8s] using HO6.out, fun b hb => ?_, (HBL.out.trans (HAL.out.mono hsz)).trans (HC6.out.below (by omega) fun b h => HOB.out b h)⟩, by simp only [intOf]; omega⟩
      rcases HAT6.out with h | h
      · exact HOB.out b (h ▸ hb)
      · rw [h] at hb; injection hb with hb; omega
    · have hk' : k = 8 := by omega
      subst hk'
      go_wp2_with fail
      go_ret
      have h1 := HO.out
      rw [show L.take 8 = L from List.take_of_length_le (by rw [HL.out]; omega)] at h1
      exact ⟨_, rfl, Fresh.of_own (by rw [HL.out]; exact h1) HBL.out HOB.out (by rw [HL.out]; omega)⟩
set_option maxHeartbeats 1000000 in
set_option maxRecDepth 100000 in
theorem rnumber_any (w : World) (v : Nat) (_hv : v < 18446744073709551616) : Calls Tryz.prog 66 #[.int .u64 v, .int .i64 8] w fun e w' => ∃ v', e = .returned v' ∧ Own w' 5 1 v' 8 (u8s (be8 v)) ∧ (∀ b, v'.ownBlock = some b → w.heap.size ≤ b) ∧ Below w.heap.size w w' := by
  have hby : ∀ k, k < 8 → ((v : Int) / 2 ^ (8 * (7 - k))) % 256 = (((be8 v).getD k 0).toNat : Int) := fun k hk => by
    rw [show 8 * (7 - k) = 56 - 8 * k by omega]
    have := be8_byte v k hk
    rw [List.getD_eq_getElem?_getD, List.getElem?_eq_getElem (by rw [be8_length]; exact hk), Option.getD_some, ← this]
    push_cast; rfl
  have hL : (be8 v).length = 8 := be8_length v
  obtain ⟨L, hLe⟩ : ∃ L, L = be8 v := ⟨_, rfl⟩
  rw [← hLe] at hby hL ⊢
  have HBY := Lib.hid hby
  have HL := Lib.hid hL
  clear hby hL hLe
  go_enter Tryz.func66, Tryz.ntmps66
  go_wp2_with fail
  go_loopw [5, 6] (fun o i wr => ∃ k : Nat, k ≤ 8 ∧ i = .int .i64 (7 - (k : Int)) ∧ Own wr 5 1 o k (u8s (L.take k)) ∧ (∀ b, o.ownBlock = some b → w.heap.size ≤ b) ∧ Below w.heap.size w wr) (fun _ i _ => (intOf i + 1).toNat)
  case atStart =>
    have hal := (Below.refl w.heap.size w).alloc (Nat.le_refl _) (.cells #[] 5)
    exact ⟨0, by omega, rfl, Own.empty w 5 1, fun b hb => by simp [Value.ownBlock] at hb; omega, hal⟩
  case round =>
    obtain ⟨k, hk, rfl, ho, hob, hbl⟩ := hrel
    obtain ⟨Ao, co, rfl⟩ := ho.form
    have HO := Lib.hid ho
    have HOB := Lib.hid hob
    have HBL := Lib.hid hbl
    clear ho hob
    by_cases hlt : k < 8
    · have hbk := HBY.out k hlt
      obtain ⟨x, hx⟩ : ∃ x, x = L.getD k 0 := ⟨_, rfl⟩
      rw [← hx] at hbk
      have htk : L.take (k + 1) = L.take k ++ [x] := by
        rw [List.take_succ_eq_append_getElem (by rw [HL.out]; exact hlt), hx, List.getD_eq_getElem?_getD, List.getElem?_eq_getElem (by rw [HL.out]; exact hlt), Option.getD_some]
      have HTK := Lib.hid htk
      have hal := (Below.refl wr.heap.size wr).alloc (Nat.le_refl _) (.cells #[.int .u8 x.toNat] 5)
      have HAL := Lib.hid hal
      have HO2 := Lib.hid (show Own (wr.alloc (.cells #[.int .u8 x.toNat] 5)) 5 1 (.slice Ao k co) k (u8s (L.take k)) from own_keep HO.out fun b hb => hal.block b (own_lt HO.out hb))
      have HS2 := Lib.hid (Cs.of_new wr 5 (size := 1) 1 (cs := [.int .u8 x.toNat]) rfl (by simp only [maxLen]; decide))
      clear hx htk hal
      go_wp2_with (at_builtin; refine wpList_app _ rfl _ _ _ rfl Tryz.underlying77 info_u8 rfl (by decide) HO2.out rfl HS2.out rfl (by simp [Value.oneCell']) (by simp only [maxLen]; omega) (by omega) ?_; intro v6 w6 ho6 hc6 hnil6 hat6; clear hnil6; have HO6 := Lib.hid ho6; clear ho6; have HC6 := Lib.hid hc6; clear hc6; have HAT6 := Lib.hid hat6; clear hat6)
      have hsz := HBL.out.size
      have hsa := HAL.out.size
      refine ⟨⟨k + 1, by omega, by congr 1; push_cast; omega, by rw [HTK.out]; simpa [u8s] using HO6.out, fun b hb => ?_, (HBL.out.trans (HAL.out.mono hsz)).trans (HC6.out.below (by omega) fun b h => HOB.out b h)⟩, by simp only [intOf]; omega⟩
      rcases HAT6.out with h | h
      · exact HOB.out b (h ▸ hb)
      · rw [h] at hb; injection hb with hb; omega
    · have hk' : k = 8 := by omega
      subst hk'
      go_wp2_with fail
      go_ret
      have h1 := HO.out
      rw [show L.take 8 = L from List.take_of_length_le (by rw [HL.out]; omega)] at h1
      exact ⟨_, rfl, h1, HOB.out, HBL.out⟩
end
section
open Go.RowKit Go.Maps
set_option maxHeartbeats 2000000 in
set_option maxRecDepth 100000 in
theorem rJoin_any (w : World) {S : Nat → Prop} {v : Value} {rows : List (List UInt8)} (h : Bsr w S v rows) (hl : (joinB rows).length ≤ 140737488355328) (hS : ∀ b, S b → b < w.heap.size) :
    Calls Tryz.prog 54 #[v] w fun e w' => ∃ v', e = .returned v' ∧ Fresh w w' v' (joinB rows) := by
  obtain ⟨A, cap, rfl⟩ := h.form
  have H := Lib.hid h; clear h
  have hc := joinP_count rows
  rw [joinB_length] at hl
  have HA := Lib.hid (rnumber_any w rows.length (by omega))
  have hw := u64_wrap_nat rows.length (by omega)
  go_enter Tryz.func54, Tryz.ntmps54
  go_wp2_with fail
  refine HA.out.mono ?_
  rintro e w1 ⟨v1, rfl, ho, hv, hb1⟩
  obtain ⟨B0, hB0⟩ : ∃ B0, B0 = be8 rows.length := ⟨_, rfl⟩
  have ho : Own w1 5 1 v1 (B0 ++ joinP (rows.take 0)).length (u8s (B0 ++ joinP (rows.take 0))) := by
    rw [List.take_zero, show joinP [] = [] from rfl, List.append_nil, hB0, be8_length]; exact ho
  have hB8 : B0.length = 8 := by rw [hB0, be8_length]
  have HB8 := Lib.hid hB8
  have HB0 := Lib.hid hB0
  clear hB8 hB0 hw HA
  go_wp2_with fail
  go_loopw [3, 4] (fun o i wr => ∃ k : Nat, k ≤ rows.length ∧ i = .int .i64 k ∧ Own wr 5 1 o (B0 ++ joinP (rows.take k)).length (u8s (B0 ++ joinP (rows.take k))) ∧ (∀ b, o.ownBlock = some b → w.heap.size ≤ b) ∧ Below w.heap.size w wr) (fun _ i _ => rows.length - (intOf i).toNat)
  case atStart => exact ⟨0, Nat.zero_le _, rfl, ho, hv, hb1⟩
  case round =>
    obtain ⟨k, hk, rfl, ho, hv, hbl⟩ := hrel
    by_cases hlt : k < rows.length
    · obtain ⟨ba, oa, ua, rfl, hca, hua, hblt, hSb⟩ := (H.out.below hbl).at_ hlt
      have hT := joinP_take_le rows k
      have hT1 := joinP_take_le rows (k + 1)
      have hts := joinP_take_succ rows k hlt
      obtain ⟨x, hx⟩ : ∃ x, x = rows[k] := ⟨_, rfl⟩
      rw [← hx] at hua hts
      have hlen : (joinP (rows.take (k + 1))).length = (joinP (rows.take k)).length + 8 + x.length := by rw [hts, List.length_append, List.length_append, be8_length]
      obtain ⟨J, hJ⟩ : ∃ J, J = joinP (rows.take k) := ⟨_, rfl⟩
      rw [← hJ] at ho hT hts hlen
      obtain ⟨J', hJ'⟩ : ∃ J', J' = joinP (rows.take (k + 1)) := ⟨_, rfl⟩
      rw [← hJ'] at hT1 hts hlen
      have hB8 := HB8.out
      have hx2 := hua.2
      obtain ⟨Ax, cx, rfl⟩ := hua.form
      have HNUM := Lib.hid (rnumber_any wr x.length (by omega))
      have HUA := Lib.hid hua
      have HV := Lib.hid hv
      have HTS := Lib.hid hts
      have hw := u64_wrap_nat x.length (by omega)
      obtain ⟨m, hm⟩ : ∃ m, m = (B0 ++ J).length := ⟨_, rfl⟩
      have hml : m + 8 + x.length ≤ 140737488355328 := by rw [hm, List.length_append]; omega
      have HML := Lib.hid hml
      have HM := Lib.hid hm
      rw [← hm] at ho
      obtain ⟨Ao, co, rfl⟩ := ho.form
      have HO := Lib.hid ho
      have HCA := Lib.hid hca
      clear hua hv hts hx hJ hlen hT hT1 hx2 hB8 ho hm
      go_wp2_with fail
      refine HNUM.out.mono ?_
      rintro e w2 ⟨v2, rfl, ho2, hv2, hb2⟩
      have HO2 := Lib.hid (show Own w2 5 1 (.slice Ao m co) m (u8s (B0 ++ J)) from own_keep HO.out fun b hb => hb2.block b (own_lt HO.out hb))
      have HS2 := Lib.hid (show Cs w2 (fun b => wr.heap.size ≤ b) 1 v2 8 (u8s (be8 x.length)) from Cs.of_own ho2 hv2)
      obtain ⟨A2, c2, rfl⟩ := ho2.form
      have HUA2 := Lib.hid (HUA.out.below hb2)
      have hca2 : w2.cell? ⟨ba, oa + k, none⟩ = some (.slice Ax x.length cx) := (World.cell?_of_block (a := ⟨ba, oa + k, none⟩) (hb2.block ba hblt)).trans hca
      have HCA2 := Lib.hid hca2
      clear hw ho2 hca2 hca
      have hsb := hbl.size
      have hs2 := hb2.size
      go_wp2_with (first
        | (at_builtin; refine wpList_app _ rfl _ _ _ rfl Tryz.underlying77 info_u8 rfl (by decide) HO2.out rfl HS2.out rfl (u8s_one _) (by have := HML.out; simp only [maxLen]; omega) (by have := HML.out; omega) ?_; intro v3 w3 ho3 hg3 hnil3 hat3; clear hnil3
           obtain ⟨A3, c3, rfl⟩ := ho3.form
           have HO3 := Lib.hid ho3; clear ho3; have HG3 := Lib.hid hg3; clear hg3; have HAT3 := Lib.hid hat3; clear hat3
           have hca3 : w3.cell? ⟨ba, oa + k, none⟩ = some (.slice Ax x.length cx) := (World.cell?_of_block (a := ⟨ba, oa + k, none⟩) (HG3.out.block ba (ltle hblt hs2) fun h => by have h1 := HV.out ba h; have h2 := hS ba hSb; omega)).trans HCA2.out
           have HUA3 := Lib.hid (HUA2.out.chg HG3.out fun b hb h => by have h1 := HV.out b h; have h2 := hS b hb; omega))
        | (at_builtin; refine wpList_app _ rfl _ _ _ rfl Tryz.underlying77 info_u8 rfl (by decide) HO3.out rfl HUA3.out.1 rfl (u8s_one _) (by have := HML.out; simp only [maxLen]; omega) (by have := HML.out; omega) ?_; intro v4 w4 ho4 hg4 hnil4 hat4; clear hnil4
           have HO4 := Lib.hid ho4; clear ho4; have HG4 := Lib.hid hg4; clear hg4; have HAT4 := Lib.hid hat4; clear hat4))
      have hv3 : ∀ b, (Value.slice A3 (m + 8) c3).ownBlock = some b → w.heap.size ≤ b := fun b hb => HAT3.out.elim (fun h => HV.out b (h ▸ hb)) fun h => by rw [h] at hb; injection hb with hb; omega
      have hs3 := HG3.out.size
      have hv4 : ∀ b, v4.ownBlock = some b → w.heap.size ≤ b := fun b hb => HAT4.out.elim (fun h => hv3 b (h ▸ hb)) fun h => by rw [h] at hb; injection hb with hb; omega
      have hbl3 : Below w.heap.size w w3 := (hbl.trans (hb2.mono hsb)).trans (HG3.out.below (by omega) fun b h => HV.out b h)
      refine ⟨⟨k + 1, by omega, by push_cast; rfl, ?_, hv4, hbl3.trans (HG4.out.below hbl3.size fun b h => hv3 b h)⟩, by simp only [intOf]; omega⟩
      have h1 := HO4.out
      have h2 : u8s (B0 ++ J) ++ u8s (be8 x.length) ++ u8s x = u8s (B0 ++ J') := by rw [HTS.out]; simp [u8s]
      have h3 : m + 8 + x.length = (B0 ++ J').length := by rw [HTS.out, HM.out]; simp [be8_length]; omega
      rw [h2, h3] at h1
      exact hJ' ▸ h1
    · have hk' : k = rows.length := by omega
      subst hk'
      rw [List.take_length] at ho
      have HO := Lib.hid ho
      have HV := Lib.hid hv
      clear ho hv
      go_wp2_with fail
      go_ret
      have h1 := HO.out
      have h2 : B0 ++ joinP rows = joinB rows := by rw [HB0.out]; rfl
      rw [h2] at h1
      exact ⟨_, rfl, Fresh.of_own h1 hbl HV.out (by rw [joinB_length]; omega)⟩
end
section
open Go.RowKit Go.Maps
theorem Bs.of_range {w : World} {S : Nat → Prop} {b off : Nat} {x : List UInt8} (hS : S b) (hlt : b < w.heap.size) (h : w.rangeAt b off (u8s x)) (hl : x.length ≤ 1000) : Bs w S (.slice (some ⟨b, off, none⟩) x.length x.length) x :=
  ⟨⟨by simp [u8s], _, _, rfl, Nat.le_refl _, by simp only [maxLen]; omega, fun _ => ⟨b, off, rfl, hS, hlt, fun j u hj => h j u hj⟩⟩, by omega⟩
theorem Bs.of_range32 {w : World} {S : Nat → Prop} {b off : Nat} {x : List UInt8} (hS : S b) (hlt : b < w.heap.size) (h : w.rangeAt b off (u8s x)) (hl : x.length = 32) : Bs w S (.slice (some ⟨b, off, none⟩) 32 32) x := by
  have := Bs.of_range hS hlt h (by omega)
  rwa [hl] at this
theorem Bss.empty (w : World) (S T : Nat → Prop) (hS : S w.heap.size) : Bss (w.alloc (.cells #[] 77)) S T (.slice (some ⟨w.heap.size, 0, none⟩) 0 0) [] :=
  ⟨[], Own.empty w 77 1, fun k h => by simp [Value.ownBlock] at h; exact h ▸ hS, fun i x u h => by simp at h⟩
theorem Bss.empty1 (w : World) (o : Obj) : Bss ((w.alloc o).alloc (.cells #[] 77)) (fun b => w.heap.size + 1 ≤ b) (fun b => w.heap.size + 1 ≤ b) (.slice (some ⟨w.heap.size + 1, 0, none⟩) 0 0) [] := by
  have := Bss.empty (w.alloc o) (fun b => w.heap.size + 1 ≤ b) (fun b => w.heap.size + 1 ≤ b) (by simp)
  rwa [show (w.alloc o).heap.size = w.heap.size + 1 by simp] at this
theorem Bsr.drew_ {w : World} {S : Nat → Prop} {v : Value} {rows : List (List UInt8)} (h : Bsr w S v rows) : Bsr w.drew S v rows := by
  obtain ⟨vs, h1, h2⟩ := h
  exact ⟨vs, h1, h2⟩
theorem rNumI_any (w : World) (n : Int) : Calls Tryz.prog 55 #[.int .u64 (IntKind.u64.wrap n)] w fun e w' => ∃ v', e = .returned v' ∧ Fresh w w' v' (numB n) := by
  have := rNum_any w (n % 18446744073709551616).toNat (by omega)
  rw [show (((n % 18446744073709551616).toNat : Nat) : Int) = IntKind.u64.wrap n from by rw [show IntKind.u64 = nk false from rfl, wrap_u]; omega] at this
  exact this
theorem rNumU_any (w : World) (n : Int) (hn : (nk false).wrap n = n) : Calls Tryz.prog 55 #[.int .u64 n] w fun e w' => ∃ v', e = .returned v' ∧ Fresh w w' v' (numB n) := by
  have := rNumI_any w n
  rw [show IntKind.u64 = nk false from rfl, hn] at this
  exact this
end
section
open Go.RowKit Go.Maps
attribute [-simp] Tryz.isAgg37 Tryz.typeInfo37
set_option maxHeartbeats 8000000 in
set_option maxRecDepth 100000 in
theorem rHeader_any (w : World) {S : Nat → Prop} {x : tHeader.El} {cs : List Value} (h : tHeader.rep w S x cs) (hl : (tHeader.enc x).length ≤ 1099511627776) :
    Calls Tryz.prog 73 #[.agg cs.toArray] w fun e w' => ∃ v', e = .returned v' ∧ Fresh w w' v' (tHeader.enc x) := by
  obtain ⟨x0, x1, x2, x3, x4, x5, x6, x7, _⟩ := x
  obtain ⟨c0, _, rfl, ⟨rfl, _⟩, c1, _, rfl, ⟨rfl, _⟩, c2, _, rfl, ⟨rfl, _⟩, c3, _, rfl, ⟨rfl, _⟩, c4, _, rfl, ⟨rfl, l4⟩, c5, _, rfl, ⟨rfl, l5⟩, c6, _, rfl, ⟨rfl, l6⟩, c7, _, rfl, ⟨rfl, _⟩, rfl⟩ := h
  simp only [nk_t]
  obtain ⟨C, hC⟩ : ∃ C, C = [Value.int .i64 x0] ++ ([Value.int .i64 x1] ++ ([Value.int .i64 x2] ++ ([Value.int .i64 x3] ++ (u8s x4 ++ (u8s x5 ++ (u8s x6 ++ ([Value.int .i64 x7] ++ ([])))))))) := ⟨_, rfl⟩
  rw [← hC]
  have hf : ∀ w', Blk w' w.heap.size 125 C.toArray → w'.cell? ⟨w.heap.size, 0, none⟩ = some (.int .i64 x0) ∧ w'.cell? ⟨w.heap.size, 1, none⟩ = some (.int .i64 x1) ∧ w'.cell? ⟨w.heap.size, 2, none⟩ = some (.int .i64 x2) ∧ w'.cell? ⟨w.heap.size, 3, none⟩ = some (.int .i64 x3) ∧ w'.rangeAt w.heap.size 4 (u8s x4) ∧ w'.rangeAt w.heap.size 36 (u8s x5) ∧ w'.rangeAt w.heap.size 68 (u8s x6) ∧ w'.cell? ⟨w.heap.size, 100, none⟩ = some (.int .i64 x7) := fun w' hb => by
    have := hb.lies [[Value.int .i64 x0], [Value.int .i64 x1], [Value.int .i64 x2], [Value.int .i64 x3], u8s x4, u8s x5, u8s x6, [Value.int .i64 x7]] [] (by rw [hC]; simp)
    simp only [Lies, u8s_length, l4, l5, l6, List.length_cons, List.length_nil] at this
    obtain ⟨s0, s1, s2, s3, s4, s5, s6, s7, _⟩ := this
    exact ⟨Lies.one s0, Lies.one s1, Lies.one s2, Lies.one s3, s4, s5, s6, Lies.one s7⟩
  have HF := Lib.hid hf
  clear hf hC
  have L4 := Lib.hid l4; clear l4
  have L5 := Lib.hid l5; clear l5
  have L6 := Lib.hid l6; clear l6
  have hl' : (joinB [numB x0, numB x1, numB x2, numB x3, x4, x5, x6, numB x7]).length ≤ 1099511627776 := hl
  have HLL := Lib.hid hl'
  clear hl hl'
  go_enter Tryz.func73, Tryz.ntmps73
  go_wp2_with fail
  have hsz := (Blk.new w 125 C.toArray).lt
  have hb0 : Blk (w.alloc (.cells C.toArray 125)).drew w.heap.size 125 C.toArray := (Blk.new w 125 C.toArray).drew
  have hbw : Below w.heap.size w (w.alloc (.cells C.toArray 125)).drew := ((Below.refl w.heap.size w).alloc (Nat.le_refl _) _).drew
  have D4 := Lib.hid (Bs.of_range32 (S := fun b => b = w.heap.size) rfl hb0.lt ((HF.out _ hb0).2.2.2.2.1) L4.out)
  have D5 := Lib.hid (Bs.of_range32 (S := fun b => b = w.heap.size) rfl hb0.lt ((HF.out _ hb0).2.2.2.2.2.1) L5.out)
  have D6 := Lib.hid (Bs.of_range32 (S := fun b => b = w.heap.size) rfl hb0.lt ((HF.out _ hb0).2.2.2.2.2.2.1) L6.out)
  refine wp_region_hoist [0, 1, 2, 4, 5, 6, 8, 9, 10, 12, 13, 14, 16, 17, 18, 19, 20, 21, 22, 23, 24] [3, 7, 11, 15, 25] [26, 27, 28] (fun w' => Blk w' w.heap.size 125 C.toArray)
    (by kernel_rfl) (by kernel_rfl) (by kernel_rfl) (by kernel_rfl) (by kernel_rfl) (by kernel_rfl) hb0 ?_
  (refine HoistK.yes (by rfl) (by kernel_rfl) ⟨?_, fun w' hSw => ?_, ?_⟩; rotate_left; (· go_simp; try with_reducible rfl); simp only [Act.put, setIfInBounds_toArray, getElem_toArray, getElem_cons_zero, set_cons_succ, set_cons_zero])
  (refine HoistK.yes (by rfl) (by kernel_rfl) ⟨?_, fun w' hSw => ?_, ?_⟩; rotate_left; (· obtain ⟨s0, s1, s2, s3, s4, s5, s6, s7⟩ := HF.out _ hSw; go_simp; try with_reducible rfl); simp only [Act.put, setIfInBounds_toArray, getElem_toArray, getElem_cons_succ, getElem_cons_zero, set_cons_succ, set_cons_zero])
  iterate 2 (refine HoistK.yes (by rfl) (by kernel_rfl) ⟨?_, fun w' hSw => ?_, ?_⟩; rotate_left; (· go_simp; try with_reducible rfl); simp only [Act.put, setIfInBounds_toArray, getElem_toArray, getElem_cons_succ, getElem_cons_zero, set_cons_succ, set_cons_zero])
  (refine HoistK.yes (by rfl) (by kernel_rfl) ⟨?_, fun w' hSw => ?_, ?_⟩; rotate_left; (· obtain ⟨s0, s1, s2, s3, s4, s5, s6, s7⟩ := HF.out _ hSw; go_simp; try with_reducible rfl); simp only [Act.put, setIfInBounds_toArray, getElem_toArray, getElem_cons_succ, getElem_cons_zero, set_cons_succ, set_cons_zero])
  iterate 2 (refine HoistK.yes (by rfl) (by kernel_rfl) ⟨?_, fun w' hSw => ?_, ?_⟩; rotate_left; (· go_simp; try with_reducible rfl); simp only [Act.put, setIfInBounds_toArray, getElem_toArray, getElem_cons_succ, getElem_cons_zero, set_cons_succ, set_cons_zero])
  (refine HoistK.yes (by rfl) (by kernel_rfl) ⟨?_, fun w' hSw => ?_, ?_⟩; rotate_left; (· obtain ⟨s0, s1, s2, s3, s4, s5, s6, s7⟩ := HF.out _ hSw; go_simp; try with_reducible rfl); simp only [Act.put, setIfInBounds_toArray, getElem_toArray, getElem_cons_succ, getElem_cons_zero, set_cons_succ, set_cons_zero])
  iterate 2 (refine HoistK.yes (by rfl) (by kernel_rfl) ⟨?_, fun w' hSw => ?_, ?_⟩; rotate_left; (· go_simp; try with_reducible rfl); simp only [Act.put, setIfInBounds_toArray, getElem_toArray, getElem_cons_succ, getElem_cons_zero, set_cons_succ, set_cons_zero])
  (refine HoistK.yes (by rfl) (by kernel_rfl) ⟨?_, fun w' hSw => ?_, ?_⟩; rotate_left; (· obtain ⟨s0, s1, s2, s3, s4, s5, s6, s7⟩ := HF.out _ hSw; go_simp; try with_reducible rfl); simp only [Act.put, setIfInBounds_toArray, getElem_toArray, getElem_cons_succ, getElem_cons_zero, set_cons_succ, set_cons_zero])
  iterate 8 (refine HoistK.yes (by rfl) (by kernel_rfl) ⟨?_, fun w' hSw => ?_, ?_⟩; rotate_left; (· go_simp; try with_reducible rfl); simp only [Act.put, setIfInBounds_toArray, getElem_toArray, getElem_cons_succ, getElem_cons_zero, set_cons_succ, set_cons_zero])
  (refine HoistK.yes (by rfl) (by kernel_rfl) ⟨?_, fun w' hSw => ?_, ?_⟩; rotate_left; (· obtain ⟨s0, s1, s2, s3, s4, s5, s6, s7⟩ := HF.out _ hSw; go_simp; try with_reducible rfl); simp only [Act.put, setIfInBounds_toArray, getElem_toArray, getElem_cons_succ, getElem_cons_zero, set_cons_succ, set_cons_zero])
  (refine HoistK.yes (by rfl) (by kernel_rfl) ⟨?_, fun w' hSw => ?_, ?_⟩; rotate_left; (· go_simp; try with_reducible rfl); simp only [Act.put, setIfInBounds_toArray, getElem_toArray, getElem_cons_succ, getElem_cons_zero, set_cons_succ, set_cons_zero])
  refine HoistK.nil_ ?_
  simp only [opsAt, filterMap_cons, filterMap_nil, getElem?_toArray, getElem?_cons_succ, getElem?_cons_zero]
  have g0 : Got (w.alloc (.cells C.toArray 125)).drew (w.alloc (.cells C.toArray 125)).drew [] [] := Got.start (Below.refl _ _)
  refine Effects.cons_ fun _ hQ1 => ?_
  go_wp2_with fail
  refine (rNumI_any _ _).mono ?_
  rintro e u1 ⟨v1, rfl, f1⟩
  have g1 := g0.step f1
  have hb1 := hb0.below f1.2 hb0.lt
  clear f1
  go_wp2_with fail
  refine hQ1 _ _ hb1 (Effects.cons_ fun _ hQ2 => ?_)
  clear hQ1 hb0 g0
  go_wp2_with fail
  refine (rNumI_any _ _).mono ?_
  rintro e u2 ⟨v2, rfl, f2⟩
  have g2 := g1.step f2
  have hb2 := hb1.below f2.2 hb1.lt
  clear f2
  go_wp2_with fail
  refine hQ2 _ _ hb2 (Effects.cons_ fun _ hQ3 => ?_)
  clear hQ2 hb1 g1
  go_wp2_with fail
  refine (rNumI_any _ _).mono ?_
  rintro e u3 ⟨v3, rfl, f3⟩
  have g3 := g2.step f3
  have hb3 := hb2.below f3.2 hb2.lt
  clear f3
  go_wp2_with fail
  refine hQ3 _ _ hb3 (Effects.cons_ fun _ hQ4 => ?_)
  clear hQ3 hb2 g2
  go_wp2_with fail
  refine (rNumI_any _ _).mono ?_
  rintro e u4 ⟨v4, rfl, f4⟩
  have g4 := g3.step f4
  have hb4 := hb3.below f4.2 hb3.lt
  clear f4
  go_wp2_with fail
  refine hQ4 _ _ hb4 (Effects.cons_ fun _ hQ5 => ?_)
  clear hQ4 hb3 g3
  have g5 := g4.old D4.out
  clear g4
  have g6 := g5.old D5.out
  clear g5
  have g7 := g6.old D6.out
  clear g6
  go_wp2_with fail
  refine (rNumI_any _ _).mono ?_
  rintro e u5 ⟨v8, rfl, f5⟩
  have g8 := g7.step f5
  have hb5 := hb4.below f5.2 hb4.lt
  clear f5
  go_wp2_with fail
  refine hQ5 _ _ hb5 (Effects.nil_ fun _ hQ6 => ?_)
  clear hQ5 hb4 g7
  have hcs : ∀ v ∈ [v1, v2, v3, v4, (.slice (some ⟨w.heap.size, 4, none⟩) 32 32), (.slice (some ⟨w.heap.size, 36, none⟩) 32 32), (.slice (some ⟨w.heap.size, 68, none⟩) 32 32), v8], v.cells = #[v] := fun v hv => by
    obtain ⟨i, hi, rfl⟩ := List.getElem_of_mem hv
    obtain ⟨y, _, hr⟩ := g8.2.get i hi
    obtain ⟨A, c, e⟩ := hr.form
    have e' : [v1, v2, v3, v4, (.slice (some ⟨w.heap.size, 4, none⟩) 32 32), (.slice (some ⟨w.heap.size, 36, none⟩) 32 32), (.slice (some ⟨w.heap.size, 68, none⟩) 32 32), v8][i] = .slice A y.length c := e
    rw [e']; rfl
  refine wpList_rows rfl 8 _ rfl [v1, v2, v3, v4, (.slice (some ⟨w.heap.size, 4, none⟩) 32 32), (.slice (some ⟨w.heap.size, 36, none⟩) 32 32), (.slice (some ⟨w.heap.size, 68, none⟩) 32 32), v8] rfl (by decide) (by decide) hcs (by simp [Act.eval]) ?_
  have hr : Bsr (u5.alloc (.cells [v1, v2, v3, v4, (.slice (some ⟨w.heap.size, 4, none⟩) 32 32), (.slice (some ⟨w.heap.size, 36, none⟩) 32 32), (.slice (some ⟨w.heap.size, 68, none⟩) 32 32), v8].toArray 77)) (fun b => b < u5.heap.size + 1) (.slice (some ⟨u5.heap.size, 0, none⟩) 8 8) [numB x0, numB x1, numB x2, numB x3, x4, x5, x6, numB x7] := g8.row (by simp [maxLen]) 77
  have hj := rJoin_any _ hr (by have := HLL.out; omega) (fun b hb => by simpa using hb)
  have hbb : Below w.heap.size w (u5.alloc (.cells [v1, v2, v3, v4, (.slice (some ⟨w.heap.size, 4, none⟩) 32 32), (.slice (some ⟨w.heap.size, 36, none⟩) 32 32), (.slice (some ⟨w.heap.size, 68, none⟩) 32 32), v8].toArray 77)) := (hbw.trans (g8.1.mono hbw.size)).alloc (hbw.trans (g8.1.mono hbw.size)).size _
  have HJ := Lib.hid hj
  have HBB := Lib.hid hbb
  clear hj hbb hr g8 hcs
  go_wp2_with fail
  refine HJ.out.mono ?_
  rintro e uz ⟨vz, rfl, fz⟩
  go_wp2_with fail
  go_ret
  exact ⟨vz, rfl, fz.1.sub fun b hb _ => ⟨Nat.le_trans HBB.out.size hb.1, hb.2⟩, HBB.out.trans (fz.2.mono HBB.out.size)⟩
end
section
open Go.RowKit Go.Maps
attribute [-simp] Tryz.isAgg37 Tryz.typeInfo37
set_option maxHeartbeats 8000000 in
set_option maxRecDepth 100000 in
theorem rSig_any (w : World) {S : Nat → Prop} {x : tSig.El} {cs : List Value} (h : tSig.rep w S x cs) (hl : (tSig.enc x).length ≤ 1099511627776) :
    Calls Tryz.prog 86 #[.agg cs.toArray] w fun e w' => ∃ v', e = .returned v' ∧ Fresh w w' v' (tSig.enc x) := by
  obtain ⟨x0, x1, _⟩ := x
  obtain ⟨c0, _, rfl, ⟨rfl, _⟩, c1, _, rfl, ⟨rfl, l1⟩, rfl⟩ := h
  simp only [nk_t]
  obtain ⟨C, hC⟩ : ∃ C, C = [Value.int .i64 x0] ++ (u8s x1 ++ ([])) := ⟨_, rfl⟩
  rw [← hC]
  have hf : ∀ w', Blk w' w.heap.size 148 C.toArray → w'.cell? ⟨w.heap.size, 0, none⟩ = some (.int .i64 x0) ∧ w'.rangeAt w.heap.size 1 (u8s x1) := fun w' hb => by
    have := hb.lies [[Value.int .i64 x0], u8s x1] [] (by rw [hC]; simp)
    simp only [Lies, List.length_cons, List.length_nil] at this
    obtain ⟨s0, s1, _⟩ := this
    exact ⟨Lies.one s0, s1⟩
  have HF := Lib.hid hf
  clear hf hC
  have L1 := Lib.hid l1; clear l1
  have hl' : (joinB [numB x0, x1]).length ≤ 1099511627776 := hl
  have HLL := Lib.hid hl'
  clear hl hl'
  go_enter Tryz.func86, Tryz.ntmps86
  go_wp2_with fail
  have hsz := (Blk.new w 148 C.toArray).lt
  have hb0 : Blk (w.alloc (.cells C.toArray 148)).drew w.heap.size 148 C.toArray := (Blk.new w 148 C.toArray).drew
  have hbw : Below w.heap.size w (w.alloc (.cells C.toArray 148)).drew := ((Below.refl w.heap.size w).alloc (Nat.le_refl _) _).drew
  have D1 := Lib.hid (Bs.of_range32 (S := fun b => b = w.heap.size) rfl hb0.lt ((HF.out _ hb0).2) L1.out)
  refine wp_region_hoist [0, 1, 2, 4, 5] [3] [6, 7, 8] (fun w' => Blk w' w.heap.size 148 C.toArray)
    (by kernel_rfl) (by kernel_rfl) (by kernel_rfl) (by kernel_rfl) (by kernel_rfl) (by kernel_rfl) hb0 ?_
  (refine HoistK.yes (by rfl) (by kernel_rfl) ⟨?_, fun w' hSw => ?_, ?_⟩; rotate_left; (· go_simp; try with_reducible rfl); simp only [Act.put, setIfInBounds_toArray, getElem_toArray, getElem_cons_zero, set_cons_succ, set_cons_zero])
  (refine HoistK.yes (by rfl) (by kernel_rfl) ⟨?_, fun w' hSw => ?_, ?_⟩; rotate_left; (· obtain ⟨s0, s1⟩ := HF.out _ hSw; go_simp; try with_reducible rfl); simp only [Act.put, setIfInBounds_toArray, getElem_toArray, getElem_cons_succ, getElem_cons_zero, set_cons_succ, set_cons_zero])
  iterate 3 (refine HoistK.yes (by rfl) (by kernel_rfl) ⟨?_, fun w' hSw => ?_, ?_⟩; rotate_left; (· go_simp; try with_reducible rfl); simp only [Act.put, setIfInBounds_toArray, getElem_toArray, getElem_cons_succ, getElem_cons_zero, set_cons_succ, set_cons_zero])
  refine HoistK.nil_ ?_
  simp only [opsAt, filterMap_cons, filterMap_nil, getElem?_toArray, getElem?_cons_succ, getElem?_cons_zero]
  have g0 : Got (w.alloc (.cells C.toArray 148)).drew (w.alloc (.cells C.toArray 148)).drew [] [] := Got.start (Below.refl _ _)
  refine Effects.cons_ fun _ hQ1 => ?_
  go_wp2_with fail
  refine (rNumI_any _ _).mono ?_
  rintro e u1 ⟨v1, rfl, f1⟩
  have g1 := g0.step f1
  have hb1 := hb0.below f1.2 hb0.lt
  clear f1
  go_wp2_with fail
  refine hQ1 _ _ hb1 (Effects.nil_ fun _ hQ2 => ?_)
  clear hQ1 hb0 g0
  have g2 := g1.old D1.out
  clear g1
  have hcs : ∀ v ∈ [v1, (.slice (some ⟨w.heap.size, 1, none⟩) 32 32)], v.cells = #[v] := fun v hv => by
    obtain ⟨i, hi, rfl⟩ := List.getElem_of_mem hv
    obtain ⟨y, _, hr⟩ := g2.2.get i hi
    obtain ⟨A, c, e⟩ := hr.form
    have e' : [v1, (.slice (some ⟨w.heap.size, 1, none⟩) 32 32)][i] = .slice A y.length c := e
    rw [e']; rfl
  refine wpList_rows rfl 2 _ rfl [v1, (.slice (some ⟨w.heap.size, 1, none⟩) 32 32)] rfl (by decide) (by decide) hcs (by simp [Act.eval]) ?_
  have hr : Bsr (u1.alloc (.cells [v1, (.slice (some ⟨w.heap.size, 1, none⟩) 32 32)].toArray 77)) (fun b => b < u1.heap.size + 1) (.slice (some ⟨u1.heap.size, 0, none⟩) 2 2) [numB x0, x1] := g2.row (by simp [maxLen]) 77
  have hj := rJoin_any _ hr (by have := HLL.out; omega) (fun b hb => by simpa using hb)
  have hbb : Below w.heap.size w (u1.alloc (.cells [v1, (.slice (some ⟨w.heap.size, 1, none⟩) 32 32)].toArray 77)) := (hbw.trans (g2.1.mono hbw.size)).alloc (hbw.trans (g2.1.mono hbw.size)).size _
  have HJ := Lib.hid hj
  have HBB := Lib.hid hbb
  clear hj hbb hr g2 hcs
  go_wp2_with fail
  refine HJ.out.mono ?_
  rintro e uz ⟨vz, rfl, fz⟩
  go_wp2_with fail
  go_ret
  exact ⟨vz, rfl, fz.1.sub fun b hb _ => ⟨Nat.le_trans HBB.out.size hb.1, hb.2⟩, HBB.out.trans (fz.2.mono HBB.out.size)⟩
end
section
open Go.RowKit Go.Maps
set_option maxHeartbeats 2000000 in
set_option maxRecDepth 100000 in
theorem rNums_any (w : World) {S : Nat → Prop} {v : Value} {l : List (i64).El} (h : (Sh.list i64).rep w S l [v]) (hl : ((Sh.list i64).enc l).length ≤ 1099511627776) :
    Calls Tryz.prog 87 #[v] w fun e w' => ∃ v', e = .returned v' ∧ Fresh w w' v' ((Sh.list i64).enc l) := by
  obtain ⟨A, cap, rfl, hlen, hat⟩ := list_at h
  have H := Lib.hid h; clear h
  have hl' : (joinB (l.map (i64).enc)).length ≤ 1099511627776 := hl
  have hcnt := joinP_count (l.map (i64).enc)
  rw [joinB_length] at hl'
  rw [List.length_map] at hcnt
  have HLL := Lib.hid hl
  clear hl hat
  go_enter Tryz.func87, Tryz.ntmps87
  go_wp2_with fail
  go_loopw [3, 4] (fun a i wr => ∃ k : Nat, k ≤ l.length ∧ i = .int .i64 k ∧ Bss wr (fun b => w.heap.size ≤ b) (fun b => w.heap.size ≤ b) a ((l.take k).map (i64).enc) ∧ Below w.heap.size w wr) (fun _ i _ => l.length - (intOf i).toNat)
  case atStart => exact ⟨0, Nat.zero_le _, rfl, Bss.empty w _ _ (Nat.le_refl _), (Below.refl w.heap.size w).alloc (Nat.le_refl _) _⟩
  case round =>
    obtain ⟨k, hk, rfl, hB, hbl⟩ := hrel
    by_cases hlt : k < l.length
    · obtain ⟨R, hR⟩ : ∃ R, R = (l.take k).map (i64).enc := ⟨_, rfl⟩
      rw [← hR] at hB
      have hRl : R.length = k := by rw [hR, List.length_map, List.length_take]; omega
      have hnext : (l.take (k + 1)).map (i64).enc = R ++ [(i64).enc l[k]] := by rw [List.take_succ_eq_append_getElem hlt, List.map_append, ← hR]; rfl
      obtain ⟨Aa, ca, rfl⟩ := hB.form
      obtain ⟨_, _, e, _, hat⟩ := list_at (Sh.rep_below H.out hbl)
      injection e with e1 e2 e3
      subst e1 e3
      obtain ⟨b, off, c, rfl, hca, hr, hcl, _, _⟩ := hat k hlt
      obtain ⟨x, hx⟩ : ∃ x, x = l[k] := ⟨_, rfl⟩
      rw [← hx] at hr hnext
      obtain ⟨rfl, _⟩ := hr
      have hcell := Lies.one hca
      have hcell : wr.cell? ⟨b, off + k, none⟩ = some (.int .i64 x) := by simpa [Sh.cells, nk] using hcell
      have hown : ∀ k, (Value.slice Aa R.length ca).ownBlock = some k → k < wr.heap.size := fun k hk => by obtain ⟨vs, ho, _⟩ := hB; exact own_lt ho hk
      have HB := Lib.hid hB
      have HN := Lib.hid hnext
      have HRL := Lib.hid hRl
      have HOWN := Lib.hid hown
      clear hB hca hcl hat hx hR hnext hRl hown
      go_wp2_with fail
      refine (rNumI_any _ _).mono ?_
      rintro e w1 ⟨v1, rfl, f1⟩
      have hb1 := hbl.trans (f1.2.mono hbl.size)
      obtain ⟨y, hy⟩ : ∃ y, y = (i64).enc x := ⟨_, rfl⟩
      have f1 : Fresh wr w1 v1 y := hy ▸ f1
      rw [← hy] at HN
      obtain ⟨A1, c1, rfl⟩ := f1.1.form
      obtain ⟨vs, ho, hS, hr⟩ := HB.out.below f1.2
      have hsz1 := f1.2.size
      have hal : Below w1.heap.size w1 (w1.alloc (.cells #[.slice A1 y.length c1] 77)) := (Below.refl _ w1).alloc (Nat.le_refl _) _
      have HAL := Lib.hid hal
      have HO := Lib.hid (show Own (w1.alloc (.cells #[.slice A1 y.length c1] 77)) _ _ _ _ _ from own_keep ho fun k hk => hal.block k (own_lt ho hk))
      have HS := Lib.hid hS
      have HR := Lib.hid (fun i x u h1 h2 => (hr i x u h1 h2).below hal)
      have HU := Lib.hid ((f1.1.1.below hal).sub (T := fun b => w.heap.size ≤ b ∧ (Value.slice Aa R.length ca).ownBlock ≠ some b) fun b hb _ => ⟨Nat.le_trans hbl.size hb.1, fun e => by have := HOWN.out b e; omega⟩)
      have HS2 := Lib.hid (Cs.of_new w1 77 (size := 1) 1 (cs := [.slice A1 y.length c1]) rfl (by simp only [maxLen]; decide))
      have H63 := Lib.hid (show R.length + 1 ≤ maxLen ∧ (R.length + 1) * 24 ≤ 140737488355328 from by have := HRL.out; refine ⟨by simp only [maxLen]; omega, by omega⟩)
      clear ho hS hr hal f1 hy
      go_wp2_with (at_builtin; refine wpList_app _ rfl _ _ _ rfl Tryz.underlying107 info_row rfl (by decide) HO.out rfl HS2.out rfl (by simp [Value.oneCell']) H63.out.1 H63.out.2 ?_; intro v3 w3 ho3 hg3 hnil3 hat3; clear hnil3; have HO3 := Lib.hid ho3; clear ho3; have HG3 := Lib.hid hg3; clear hg3; have HAT3 := Lib.hid hat3; clear hat3)
      have hpush := Bss.push HO.out HS.out HR.out HU.out HO3.out HG3.out HAT3.out (by have := hb1.size; have := HAL.out.size; omega)
      rw [← HN.out] at hpush
      refine ⟨⟨k + 1, by omega, by push_cast; rfl, hpush, (hb1.trans (HAL.out.mono hb1.size)).trans (HG3.out.below (Nat.le_trans hb1.size HAL.out.size) fun b h => HS.out b h)⟩, ?_⟩
      simp only [intOf]
      omega
    · have hk' : k = l.length := by omega
      rw [hk', List.take_length] at hB
      have hsm : ∀ x ∈ l.map (i64).enc, x.length ≤ 140737488355328 := fun x hx => by have := joinP_mem hx; omega
      have hj := rJoin_any _ ((hB.read hsm).lt_ (T := fun b => w.heap.size ≤ b) fun b h => h.elim id id) (by rw [joinB_length]; omega) fun b h => h.2
      have HJ := Lib.hid hj
      obtain ⟨R, hR⟩ : ∃ R, R = l.map (i64).enc := ⟨_, rfl⟩
      have HR := Lib.hid hR
      rw [← hR] at hB HJ
      obtain ⟨Aa, ca, rfl⟩ := hB.form
      clear hj hB hR hsm
      go_wp2_with fail
      refine HJ.out.mono ?_
      rintro e w1 ⟨v1, rfl, f1⟩
      go_wp2_with fail
      go_ret
      refine ⟨v1, rfl, ?_, hbl.trans (f1.2.mono hbl.size)⟩
      have := f1.1.sub (T := fun b => w.heap.size ≤ b ∧ Th w1 b) fun b hb _ => ⟨Nat.le_trans hbl.size hb.1, hb.2⟩
      rw [HR.out] at this
      exact this
end
section
open Go.RowKit Go.Maps
attribute [-simp] Tryz.isAgg37 Tryz.typeInfo37 Tryz.isAgg148 Tryz.typeInfo148
set_option maxHeartbeats 8000000 in
set_option maxRecDepth 100000 in
theorem rQC_any (w : World) {S : Nat → Prop} {x : tQC.El} {cs : List Value} (h : tQC.rep w S x cs) (hl : (tQC.enc x).length ≤ 1099511627776) :
    Calls Tryz.prog 74 #[.agg cs.toArray] w fun e w' => ∃ v', e = .returned v' ∧ Fresh w w' v' (tQC.enc x) := by
  obtain ⟨x0, x1, x2, x3, x4, x5, _⟩ := x
  obtain ⟨c0, _, rfl, ⟨rfl, _⟩, c1, _, rfl, ⟨rfl, _⟩, c2, _, rfl, ⟨rfl, _⟩, c3, _, rfl, ⟨rfl, l3⟩, c4, _, rfl, r4, c5, _, rfl, r5, rfl⟩ := h
  obtain ⟨y4, rfl⟩ : ∃ y, c4 = [y] := by obtain ⟨v, _, e, _⟩ := r4; exact ⟨v, e⟩
  obtain ⟨y5, rfl⟩ : ∃ y, c5 = [y] := by obtain ⟨v, _, e, _⟩ := r5; exact ⟨v, e⟩
  obtain ⟨A5, cap5, rfl, hlen5, _⟩ := list_at r5
  have R4 := Lib.hid r4; clear r4
  have R5 := Lib.hid r5; clear r5
  simp only [nk_t]
  obtain ⟨C, hC⟩ : ∃ C, C = [Value.int .i64 x0] ++ ([Value.int .i64 x1] ++ ([Value.int .i64 x2] ++ (u8s x3 ++ ([y4] ++ ([Value.slice A5 (List.length (α := (tSig).El) x5) cap5] ++ ([])))))) := ⟨_, rfl⟩
  rw [← hC]
  have hf : ∀ w', Blk w' w.heap.size 88 C.toArray → w'.cell? ⟨w.heap.size, 0, none⟩ = some (.int .i64 x0) ∧ w'.cell? ⟨w.heap.size, 1, none⟩ = some (.int .i64 x1) ∧ w'.cell? ⟨w.heap.size, 2, none⟩ = some (.int .i64 x2) ∧ w'.rangeAt w.heap.size 3 (u8s x3) ∧ w'.cell? ⟨w.heap.size, 35, none⟩ = some y4 ∧ w'.cell? ⟨w.heap.size, 36, none⟩ = some (.slice A5 (List.length (α := (tSig).El) x5) cap5) := fun w' hb => by
    have := hb.lies [[Value.int .i64 x0], [Value.int .i64 x1], [Value.int .i64 x2], u8s x3, [y4], [Value.slice A5 (List.length (α := (tSig).El) x5) cap5]] [] (by rw [hC]; simp)
    simp only [Lies, u8s_length, l3, List.length_cons, List.length_nil] at this
    obtain ⟨s0, s1, s2, s3, s4, s5, _⟩ := this
    exact ⟨Lies.one s0, Lies.one s1, Lies.one s2, s3, Lies.one s4, Lies.one s5⟩
  have HF := Lib.hid hf
  clear hf hC
  have L3 := Lib.hid l3; clear l3
  have hl' : (joinB [numB x0, numB x1, numB x2, x3, (Sh.list i64).enc x4, (Sh.list tSig).enc x5]).length ≤ 1099511627776 := hl
  have HLL := Lib.hid hl'
  clear hl hl'
  have HE5 := Lib.hid (show ((Sh.list tSig).enc x5).length ≤ 1099511627776 from (by have h1 := HLL.out; rw [joinB_length] at h1; have h2 := joinP_mem (l := [numB x0, numB x1, numB x2, x3, (Sh.list i64).enc x4, (Sh.list tSig).enc x5]) (x := (Sh.list tSig).enc x5) (by simp); omega))
  have hcn5 : (List.length (α := (tSig).El) x5) ≤ 137438953472 := by
    have h1 := HE5.out
    have h2 := joinP_count (List.map (tSig).enc x5)
    have h3 : ((Sh.list tSig).enc x5).length = 8 + (joinP (List.map (tSig).enc x5)).length := joinB_length _
    rw [List.length_map] at h2
    omega
  have HEJ5 := Lib.hid (show (joinB (List.map (tSig).enc x5)).length ≤ 140737488355328 from by
    have h1 := HE5.out
    have h3 : ((Sh.list tSig).enc x5).length = 8 + (joinP (List.map (tSig).enc x5)).length := joinB_length _
    rw [joinB_length]
    omega)
  go_enter Tryz.func74, Tryz.ntmps74
  go_wp2_with fail
  have hbe := (Below.refl w.heap.size w).alloc (Nat.le_refl _) (.cells C.toArray 88)
  have hal0 : Below (w.heap.size + 1) (w.alloc (.cells C.toArray 88)) ((w.alloc (.cells C.toArray 88)).alloc (.cells #[] 77)) := (Below.refl _ _).alloc (by simp) _
  have hMb : w.heap.size < w.heap.size + 1 := by omega
  go_loopw [3, 4] (fun o i wr => ∃ k : Nat, k ≤ (List.length (α := (tSig).El) x5) ∧ i = .int .i64 k ∧ Bss wr (fun b => (w.heap.size + 1) ≤ b) (fun b => (w.heap.size + 1) ≤ b) o ((List.take k x5).map (tSig).enc) ∧ Below w.heap.size w wr ∧ (w.heap.size + 1) ≤ wr.heap.size ∧ Blk wr w.heap.size 88 C.toArray) (fun _ i _ => (List.length (α := (tSig).El) x5) - (intOf i).toNat)
  case atStart => exact ⟨0, Nat.zero_le _, rfl, Bss.empty1 w _, hbe.alloc (by simp) _, by simp, ((Blk.new w _ _).alloc _)⟩
  case round =>
    obtain ⟨k, hk, rfl, hB, hbl, hMz, hbox⟩ := hrel
    by_cases hlt : k < (List.length (α := (tSig).El) x5)
    · obtain ⟨R, hR⟩ : ∃ R, R = (List.take k x5).map (tSig).enc := ⟨_, rfl⟩
      rw [← hR] at hB
      have hRl : R.length = k := by rw [hR, List.length_map, List.length_take]; omega
      have hnext : (List.take (k + 1) x5).map (tSig).enc = R ++ [(tSig).enc (x5[k]'hlt)] := by rw [List.take_succ_eq_append_getElem hlt, List.map_append, ← hR]; rfl
      obtain ⟨Aa, ca, rfl⟩ := hB.form
      obtain ⟨_, _, e, _, hat⟩ := list_at (Sh.rep_below R5.out hbl)
      injection e with e1 e2 e3
      subst e1 e3
      obtain ⟨b, off, c, rfl, hca, hr, hcl, hblt, _⟩ := hat k hlt
      obtain ⟨x, hx⟩ : ∃ x, x = x5[k]'hlt := ⟨_, rfl⟩
      rw [← hx] at hr hnext
      have hsm2 : ((tSig).enc x).length ≤ 1099511627776 := by
        have h1 := joinP_mem (List.mem_map.2 ⟨x5[k]'hlt, List.getElem_mem hlt, rfl⟩ : (tSig).enc (x5[k]'hlt) ∈ List.map (tSig).enc x5)
        have h2 := HE5.out
        have h3 : ((Sh.list tSig).enc x5).length = 8 + (joinP (List.map (tSig).enc x5)).length := joinB_length _
        rw [hx]; omega
      have hinfo : (Tryz.prog.info? 148).map (·.size) = some c.length := by rw [hcl]; kernel_rfl
      have HCA := Lib.hid (show wr.rangeAt b (off + k * 33) c from hca)
      have HI := Lib.hid hinfo
      clear hinfo
      have HREP := Lib.hid hr
      have HSM := Lib.hid hsm2
      clear hr hsm2
      have hown : ∀ k, (Value.slice Aa R.length ca).ownBlock = some k → k < wr.heap.size := fun k hk => by obtain ⟨vs, ho, _⟩ := hB; exact own_lt ho hk
      have hbc := (HF.out wr hbox).2.2.2.2.2
      have HB := Lib.hid hB
      have HN := Lib.hid hnext
      have HRL := Lib.hid hRl
      have HOWN := Lib.hid hown
      have HBOX := Lib.hid hbox
      clear hB hca hcl hat hx hR hnext hRl hown hbox
      go_wp2_with (refine wpList_load_mid rfl 148 _ rfl b (off + k * 33) rfl c _ HCA.out Tryz.underlying148 rfl HI.out ?_)
      refine (rSig_any _ HREP.out HSM.out).mono ?_
      rintro e w1 ⟨v1, rfl, f1⟩
      have hb1 := hbl.trans (f1.2.mono hbl.size)
      obtain ⟨y, hy⟩ : ∃ y, y = (tSig).enc x := ⟨_, rfl⟩
      have f1 : Fresh wr w1 v1 y := hy ▸ f1
      rw [← hy] at HN
      obtain ⟨A1, c1, rfl⟩ := f1.1.form
      obtain ⟨vs, ho, hS, hr⟩ := HB.out.below f1.2
      have hsz1 := f1.2.size
      have hal : Below w1.heap.size w1 (w1.alloc (.cells #[.slice A1 y.length c1] 77)) := (Below.refl _ w1).alloc (Nat.le_refl _) _
      have HAL := Lib.hid hal
      have HO := Lib.hid (show Own (w1.alloc (.cells #[.slice A1 y.length c1] 77)) _ _ _ _ _ from own_keep ho fun k hk => hal.block k (own_lt ho hk))
      have HS := Lib.hid hS
      have HR := Lib.hid (fun i x u h1 h2 => (hr i x u h1 h2).below hal)
      have HU := Lib.hid ((f1.1.1.below hal).sub (T := fun b => (w.heap.size + 1) ≤ b ∧ (Value.slice Aa R.length ca).ownBlock ≠ some b) fun b hb _ => ⟨Nat.le_trans hMz hb.1, fun e => by have := HOWN.out b e; omega⟩)
      have HS2 := Lib.hid (Cs.of_new w1 77 (size := 1) 1 (cs := [.slice A1 y.length c1]) rfl (by simp only [maxLen]; decide))
      have H63 := Lib.hid (show R.length + 1 ≤ maxLen ∧ (R.length + 1) * 24 ≤ 140737488355328 from by have := HRL.out; refine ⟨by simp only [maxLen]; omega, by omega⟩)
      have HF2 := Lib.hid f1.2
      clear ho hS hr hal f1 hy
      go_wp2_with (at_builtin; refine wpList_app _ rfl _ _ _ rfl Tryz.underlying107 info_row rfl (by decide) HO.out rfl HS2.out rfl (by simp [Value.oneCell']) H63.out.1 H63.out.2 ?_; intro v3 w3 ho3 hg3 hnil3 hat3; clear hnil3; have HO3 := Lib.hid ho3; clear ho3; have HG3 := Lib.hid hg3; clear hg3; have HAT3 := Lib.hid hat3; clear hat3)
      have hzz := HAL.out.size
      have hz3 := HG3.out.size
      have hpush := Bss.push HO.out HS.out HR.out HU.out HO3.out HG3.out HAT3.out (by have := hb1.size; omega)
      rw [← HN.out] at hpush
      have hbA : Below w.heap.size w (w1.alloc (.cells #[.slice A1 y.length c1] 77)) := hb1.trans (HAL.out.mono hb1.size)
      have hbw3 := HF2.out.trans (HAL.out.mono hsz1)
      refine ⟨⟨k + 1, by omega, by push_cast; rfl, hpush, hbA.trans (HG3.out.below hbA.size fun b h => by have h1 := HS.out b h; have h2 := HBOX.out.lt; omega), by omega, (HBOX.out.below hbw3 HBOX.out.lt).chg HG3.out fun h => by have h1 := HS.out _ h; have h2 := hMb; omega⟩, ?_⟩
      simp only [intOf]
      omega
    · have hk' : k = (List.length (α := (tSig).El) x5) := by omega
      rw [hk', List.take_length] at hB
      have hsm : ∀ x ∈ List.map (tSig).enc x5, x.length ≤ 140737488355328 := fun x hx => by
        have h1 := joinP_mem hx
        have h2 := HE5.out
        have h3 : ((Sh.list tSig).enc x5).length = 8 + (joinP (List.map (tSig).enc x5)).length := joinB_length _
        omega
      have hEJ5 := HEJ5.out
      obtain ⟨R5m, hR5m⟩ : ∃ R, R = List.map (tSig).enc x5 := ⟨_, rfl⟩
      rw [← hR5m] at hB hsm hEJ5
      have HRm5 := Lib.hid hR5m
      have HEK5 := Lib.hid hEJ5
      clear hR5m hEJ5
      have V5 := Lib.hid (((hB.read hsm).lt_ (T := fun _ => True) fun _ _ => trivial).subs (T := fun b => b < wr.heap.size) fun b hb _ => hb.2)
      obtain ⟨Ao5, co5, rfl⟩ := hB.form
      have hbc5 := (HF.out wr hbox).2.2.2.2.2
      clear hB hsm
      obtain ⟨w_5, hw_5⟩ : ∃ w', w' = wr := ⟨_, rfl⟩
      subst hw_5
      have HBX5 := Lib.hid hbox; have hmb5 := hbox.lt; clear hbox
      go_wp2_with fail
      clear hlt hk hk'
      have hsz := HBX5.out.lt
      have hb0 : Blk w_5.drew w.heap.size 88 C.toArray := HBX5.out.drew
      have hbw : Below w.heap.size w w_5.drew := (hbl).drew
      have D3 := Lib.hid (Bs.of_range32 (S := fun b => b = w.heap.size) rfl hb0.lt ((HF.out _ hb0).2.2.2.1) L3.out)
      refine wp_region_hoist [0, 1, 2, 4, 5, 6, 8, 9, 10, 12, 13, 14, 15, 17] [3, 7, 11, 16, 18] [19, 20, 21] (fun w' => Blk w' w.heap.size 88 C.toArray)
        (by kernel_rfl) (by kernel_rfl) (by kernel_rfl) (by kernel_rfl) (by kernel_rfl) (by kernel_rfl) hb0 ?_
      (refine HoistK.yes (by rfl) (by kernel_rfl) ⟨?_, fun w' hSw => ?_, ?_⟩; rotate_left; (· go_simp; try with_reducible rfl); simp only [Act.put, setIfInBounds_toArray, getElem_toArray, getElem_cons_zero, set_cons_succ, set_cons_zero])
      (refine HoistK.yes (by rfl) (by kernel_rfl) ⟨?_, fun w' hSw => ?_, ?_⟩; rotate_left; (· obtain ⟨s0, s1, s2, s3, s4, s5⟩ := HF.out _ hSw; go_simp; try with_reducible rfl); simp only [Act.put, setIfInBounds_toArray, getElem_toArray, getElem_cons_succ, getElem_cons_zero, set_cons_succ, set_cons_zero])
      iterate 2 (refine HoistK.yes (by rfl) (by kernel_rfl) ⟨?_, fun w' hSw => ?_, ?_⟩; rotate_left; (· go_simp; try with_reducible rfl); simp only [Act.put, setIfInBounds_toArray, getElem_toArray, getElem_cons_succ, getElem_cons_zero, set_cons_succ, set_cons_zero])
      (refine HoistK.yes (by rfl) (by kernel_rfl) ⟨?_, fun w' hSw => ?_, ?_⟩; rotate_left; (· obtain ⟨s0, s1, s2, s3, s4, s5⟩ := HF.out _ hSw; go_simp; try with_reducible rfl); simp only [Act.put, setIfInBounds_toArray, getElem_toArray, getElem_cons_succ, getElem_cons_zero, set_cons_succ, set_cons_zero])
      iterate 2 (refine HoistK.yes (by rfl) (by kernel_rfl) ⟨?_, fun w' hSw => ?_, ?_⟩; rotate_left; (· go_simp; try with_reducible rfl); simp only [Act.put, setIfInBounds_toArray, getElem_toArray, getElem_cons_succ, getElem_cons_zero, set_cons_succ, set_cons_zero])
      (refine HoistK.yes (by rfl) (by kernel_rfl) ⟨?_, fun w' hSw => ?_, ?_⟩; rotate_left; (· obtain ⟨s0, s1, s2, s3, s4, s5⟩ := HF.out _ hSw; go_simp; try with_reducible rfl); simp only [Act.put, setIfInBounds_toArray, getElem_toArray, getElem_cons_succ, getElem_cons_zero, set_cons_succ, set_cons_zero])
      iterate 4 (refine HoistK.yes (by rfl) (by kernel_rfl) ⟨?_, fun w' hSw => ?_, ?_⟩; rotate_left; (· go_simp; try with_reducible rfl); simp only [Act.put, setIfInBounds_toArray, getElem_toArray, getElem_cons_succ, getElem_cons_zero, set_cons_succ, set_cons_zero])
      (refine HoistK.yes (by rfl) (by kernel_rfl) ⟨?_, fun w' hSw => ?_, ?_⟩; rotate_left; (· obtain ⟨s0, s1, s2, s3, s4, s5⟩ := HF.out _ hSw; go_simp; try with_reducible rfl); simp only [Act.put, setIfInBounds_toArray, getElem_toArray, getElem_cons_succ, getElem_cons_zero, set_cons_succ, set_cons_zero])
      (refine HoistK.yes (by rfl) (by kernel_rfl) ⟨?_, fun w' hSw => ?_, ?_⟩; rotate_left; (· go_simp; try with_reducible rfl); simp only [Act.put, setIfInBounds_toArray, getElem_toArray, getElem_cons_succ, getElem_cons_zero, set_cons_succ, set_cons_zero])
      refine HoistK.nil_ ?_
      simp only [opsAt, filterMap_cons, filterMap_nil, getElem?_toArray, getElem?_cons_succ, getElem?_cons_zero]
      have g0 : Got w_5.drew w_5.drew [] [] := Got.start (Below.refl _ _)
      refine Effects.cons_ fun _ hQ1 => ?_
      go_wp2_with fail
      refine (rNumI_any _ _).mono ?_
      rintro e u1 ⟨v1, rfl, f1⟩
      have g1 := g0.step f1
      have hb1 := hb0.below f1.2 hb0.lt
      clear f1
      go_wp2_with fail
      refine hQ1 _ _ hb1 (Effects.cons_ fun _ hQ2 => ?_)
      clear hQ1 hb0 g0
      go_wp2_with fail
      refine (rNumI_any _ _).mono ?_
      rintro e u2 ⟨v2, rfl, f2⟩
      have g2 := g1.step f2
      have hb2 := hb1.below f2.2 hb1.lt
      clear f2
      go_wp2_with fail
      refine hQ2 _ _ hb2 (Effects.cons_ fun _ hQ3 => ?_)
      clear hQ2 hb1 g1
      go_wp2_with fail
      refine (rNumI_any _ _).mono ?_
      rintro e u3 ⟨v3, rfl, f3⟩
      have g3 := g2.step f3
      have hb3 := hb2.below f3.2 hb2.lt
      clear f3
      go_wp2_with fail
      refine hQ3 _ _ hb3 (Effects.cons_ fun _ hQ4 => ?_)
      clear hQ3 hb2 g2
      have g4 := g3.old D3.out
      clear g3
      go_wp2_with fail
      refine (rNums_any _ (Sh.rep_below R4.out (hbw.trans (g4.1.mono hbw.size))) (by have h1 := HLL.out; rw [joinB_length] at h1; have h2 := joinP_mem (l := [numB x0, numB x1, numB x2, x3, (Sh.list i64).enc x4, (Sh.list tSig).enc x5]) (x := (Sh.list i64).enc x4) (by simp); omega)).mono ?_
      rintro e u4 ⟨v5, rfl, f4⟩
      have g5 := g4.step f4
      have hb4 := hb3.below f4.2 hb3.lt
      clear f4
      go_wp2_with fail
      refine hQ4 _ _ hb4 (Effects.cons_ fun _ hQ5 => ?_)
      clear hQ4 hb3 g4
      go_wp2_with fail
      refine (rJoin_any _ (V5.out.drew_.below g5.1) HEK5.out (fun b hb => ltle hb g5.1.size)).mono ?_
      rintro e u5 ⟨v6, rfl, f5⟩
      rw [HRm5.out] at f5
      have f5 : Fresh _ _ _ ((Sh.list tSig).enc x5) := f5
      have g6 := g5.step f5
      have hb5 := hb4.below f5.2 hb4.lt
      clear f5
      go_wp2_with fail
      refine hQ5 _ _ hb5 (Effects.nil_ fun _ hQ6 => ?_)
      clear hQ5 hb4 g5
      have hcs : ∀ v ∈ [v1, v2, v3, (.slice (some ⟨w.heap.size, 3, none⟩) 32 32), v5, v6], v.cells = #[v] := fun v hv => by
        obtain ⟨i, hi, rfl⟩ := List.getElem_of_mem hv
        obtain ⟨y, _, hr⟩ := g6.2.get i hi
        obtain ⟨A, c, e⟩ := hr.form
        have e' : [v1, v2, v3, (.slice (some ⟨w.heap.size, 3, none⟩) 32 32), v5, v6][i] = .slice A y.length c := e
        rw [e']; rfl
      refine wpList_rows rfl 6 _ rfl [v1, v2, v3, (.slice (some ⟨w.heap.size, 3, none⟩) 32 32), v5, v6] rfl (by decide) (by decide) hcs (by simp [Act.eval]) ?_
      have hr : Bsr (u5.alloc (.cells [v1, v2, v3, (.slice (some ⟨w.heap.size, 3, none⟩) 32 32), v5, v6].toArray 77)) (fun b => b < u5.heap.size + 1) (.slice (some ⟨u5.heap.size, 0, none⟩) 6 6) [numB x0, numB x1, numB x2, x3, (Sh.list i64).enc x4, (Sh.list tSig).enc x5] := g6.row (by simp [maxLen]) 77
      have hj := rJoin_any _ hr (by have := HLL.out; omega) (fun b hb => by simpa using hb)
      have hbb : Below w.heap.size w (u5.alloc (.cells [v1, v2, v3, (.slice (some ⟨w.heap.size, 3, none⟩) 32 32), v5, v6].toArray 77)) := (hbw.trans (g6.1.mono hbw.size)).alloc (hbw.trans (g6.1.mono hbw.size)).size _
      have HJ := Lib.hid hj
      have HBB := Lib.hid hbb
      clear hj hbb hr g6 hcs
      go_wp2_with fail
      refine HJ.out.mono ?_
      rintro e uz ⟨vz, rfl, fz⟩
      go_wp2_with fail
      go_ret
      exact ⟨vz, rfl, fz.1.sub fun b hb _ => ⟨Nat.le_trans HBB.out.size hb.1, hb.2⟩, HBB.out.trans (fz.2.mono HBB.out.size)⟩
end
section
open Go.RowKit Go.Maps
attribute [-simp] Tryz.isAgg37 Tryz.typeInfo37 Tryz.isAgg125 Tryz.typeInfo125 Tryz.isAgg88 Tryz.typeInfo88
set_option maxHeartbeats 8000000 in
set_option maxRecDepth 100000 in
theorem rCommit_any (w : World) {S : Nat → Prop} {x : tCommit.El} {cs : List Value} (h : tCommit.rep w S x cs) (hl : (tCommit.enc x).length ≤ 1099511627776) :
    Calls Tryz.prog 65 #[.agg cs.toArray] w fun e w' => ∃ v', e = .returned v' ∧ Fresh w w' v' (tCommit.enc x) := by
  obtain ⟨x0, x1, _⟩ := x
  obtain ⟨c0, _, rfl, r0, c1, _, rfl, r1, rfl⟩ := h
  obtain ⟨y0, rfl⟩ : ∃ y, c0 = [y] := by obtain ⟨v, _, e, _⟩ := r0; exact ⟨v, e⟩
  have l1 : c1.length = 37 := Sh.rep_size _ _ _ r1
  obtain ⟨y1, hy1⟩ : ∃ y, y = c1 := ⟨_, rfl⟩
  subst hy1
  obtain ⟨A0, cap0, rfl, hlen0, _⟩ := list_at r0
  have R0 := Lib.hid r0; clear r0
  have R1 := Lib.hid r1; clear r1
  obtain ⟨C, hC⟩ : ∃ C, C = [Value.slice A0 (List.length (α := (tHeader).El) x0) cap0] ++ (y1 ++ ([])) := ⟨_, rfl⟩
  rw [← hC]
  have hf : ∀ w', Blk w' w.heap.size 90 C.toArray → w'.cell? ⟨w.heap.size, 0, none⟩ = some (.slice A0 (List.length (α := (tHeader).El) x0) cap0) ∧ w'.rangeAt w.heap.size 1 y1 := fun w' hb => by
    have := hb.lies [[Value.slice A0 (List.length (α := (tHeader).El) x0) cap0], y1] [] (by rw [hC]; simp)
    simp only [Lies, List.length_cons, List.length_nil] at this
    obtain ⟨s0, s1, _⟩ := this
    exact ⟨Lies.one s0, s1⟩
  have HF := Lib.hid hf
  clear hf hC
  have L1 := Lib.hid l1; clear l1
  have hl' : (joinB [(Sh.list tHeader).enc x0, tQC.enc x1]).length ≤ 1099511627776 := hl
  have HLL := Lib.hid hl'
  clear hl hl'
  have HE0 := Lib.hid (show ((Sh.list tHeader).enc x0).length ≤ 1099511627776 from (by have h1 := HLL.out; rw [joinB_length] at h1; have h2 := joinP_mem (l := [(Sh.list tHeader).enc x0, tQC.enc x1]) (x := (Sh.list tHeader).enc x0) (by simp); omega))
  have hcn0 : (List.length (α := (tHeader).El) x0) ≤ 137438953472 := by
    have h1 := HE0.out
    have h2 := joinP_count (List.map (tHeader).enc x0)
    have h3 : ((Sh.list tHeader).enc x0).length = 8 + (joinP (List.map (tHeader).enc x0)).length := joinB_length _
    rw [List.length_map] at h2
    omega
  have HEJ0 := Lib.hid (show (joinB (List.map (tHeader).enc x0)).length ≤ 140737488355328 from by
    have h1 := HE0.out
    have h3 : ((Sh.list tHeader).enc x0).length = 8 + (joinP (List.map (tHeader).enc x0)).length := joinB_length _
    rw [joinB_length]
    omega)
  go_enter Tryz.func65, Tryz.ntmps65
  go_wp2_with fail
  have hbe := (Below.refl w.heap.size w).alloc (Nat.le_refl _) (.cells C.toArray 90)
  have hal0 : Below (w.heap.size + 1) (w.alloc (.cells C.toArray 90)) ((w.alloc (.cells C.toArray 90)).alloc (.cells #[] 77)) := (Below.refl _ _).alloc (by simp) _
  have hMb : w.heap.size < w.heap.size + 1 := by omega
  go_loopw [3, 4] (fun o i wr => ∃ k : Nat, k ≤ (List.length (α := (tHeader).El) x0) ∧ i = .int .i64 k ∧ Bss wr (fun b => (w.heap.size + 1) ≤ b) (fun b => (w.heap.size + 1) ≤ b) o ((List.take k x0).map (tHeader).enc) ∧ Below w.heap.size w wr ∧ (w.heap.size + 1) ≤ wr.heap.size ∧ Blk wr w.heap.size 90 C.toArray) (fun _ i _ => (List.length (α := (tHeader).El) x0) - (intOf i).toNat)
  case atStart => exact ⟨0, Nat.zero_le _, rfl, Bss.empty1 w _, hbe.alloc (by simp) _, by simp, ((Blk.new w _ _).alloc _)⟩
  case round =>
    obtain ⟨k, hk, rfl, hB, hbl, hMz, hbox⟩ := hrel
    by_cases hlt : k < (List.length (α := (tHeader).El) x0)
    · obtain ⟨R, hR⟩ : ∃ R, R = (List.take k x0).map (tHeader).enc := ⟨_, rfl⟩
      rw [← hR] at hB
      have hRl : R.length = k := by rw [hR, List.length_map, List.length_take]; omega
      have hnext : (List.take (k + 1) x0).map (tHeader).enc = R ++ [(tHeader).enc (x0[k]'hlt)] := by rw [List.take_succ_eq_append_getElem hlt, List.map_append, ← hR]; rfl
      obtain ⟨Aa, ca, rfl⟩ := hB.form
      obtain ⟨_, _, e, _, hat⟩ := list_at (Sh.rep_below R0.out hbl)
      injection e with e1 e2 e3
      subst e1 e3
      obtain ⟨b, off, c, rfl, hca, hr, hcl, hblt, _⟩ := hat k hlt
      obtain ⟨x, hx⟩ : ∃ x, x = x0[k]'hlt := ⟨_, rfl⟩
      rw [← hx] at hr hnext
      have hsm2 : ((tHeader).enc x).length ≤ 1099511627776 := by
        have h1 := joinP_mem (List.mem_map.2 ⟨x0[k]'hlt, List.getElem_mem hlt, rfl⟩ : (tHeader).enc (x0[k]'hlt) ∈ List.map (tHeader).enc x0)
        have h2 := HE0.out
        have h3 : ((Sh.list tHeader).enc x0).length = 8 + (joinP (List.map (tHeader).enc x0)).length := joinB_length _
        rw [hx]; omega
      have hinfo : (Tryz.prog.info? 125).map (·.size) = some c.length := by rw [hcl]; kernel_rfl
      have HCA := Lib.hid (show wr.rangeAt b (off + k * 101) c from hca)
      have HI := Lib.hid hinfo
      clear hinfo
      have HREP := Lib.hid hr
      have HSM := Lib.hid hsm2
      clear hr hsm2
      have hown : ∀ k, (Value.slice Aa R.length ca).ownBlock = some k → k < wr.heap.size := fun k hk => by obtain ⟨vs, ho, _⟩ := hB; exact own_lt ho hk
      have hbc := (HF.out wr hbox).1
      have HB := Lib.hid hB
      have HN := Lib.hid hnext
      have HRL := Lib.hid hRl
      have HOWN := Lib.hid hown
      have HBOX := Lib.hid hbox
      clear hB hca hcl hat hx hR hnext hRl hown hbox
      go_wp2_with (refine wpList_load_mid rfl 125 _ rfl b (off + k * 101) rfl c _ HCA.out Tryz.underlying125 rfl HI.out ?_)
      refine (rHeader_any _ HREP.out HSM.out).mono ?_
      rintro e w1 ⟨v1, rfl, f1⟩
      have hb1 := hbl.trans (f1.2.mono hbl.size)
      obtain ⟨y, hy⟩ : ∃ y, y = (tHeader).enc x := ⟨_, rfl⟩
      have f1 : Fresh wr w1 v1 y := hy ▸ f1
      rw [← hy] at HN
      obtain ⟨A1, c1, rfl⟩ := f1.1.form
      obtain ⟨vs, ho, hS, hr⟩ := HB.out.below f1.2
      have hsz1 := f1.2.size
      have hal : Below w1.heap.size w1 (w1.alloc (.cells #[.slice A1 y.length c1] 77)) := (Below.refl _ w1).alloc (Nat.le_refl _) _
      have HAL := Lib.hid hal
      have HO := Lib.hid (show Own (w1.alloc (.cells #[.slice A1 y.length c1] 77)) _ _ _ _ _ from own_keep ho fun k hk => hal.block k (own_lt ho hk))
      have HS := Lib.hid hS
      have HR := Lib.hid (fun i x u h1 h2 => (hr i x u h1 h2).below hal)
      have HU := Lib.hid ((f1.1.1.below hal).sub (T := fun b => (w.heap.size + 1) ≤ b ∧ (Value.slice Aa R.length ca).ownBlock ≠ some b) fun b hb _ => ⟨Nat.le_trans hMz hb.1, fun e => by have := HOWN.out b e; omega⟩)
      have HS2 := Lib.hid (Cs.of_new w1 77 (size := 1) 1 (cs := [.slice A1 y.length c1]) rfl (by simp only [maxLen]; decide))
      have H63 := Lib.hid (show R.length + 1 ≤ maxLen ∧ (R.length + 1) * 24 ≤ 140737488355328 from by have := HRL.out; refine ⟨by simp only [maxLen]; omega, by omega⟩)
      have HF2 := Lib.hid f1.2
      clear ho hS hr hal f1 hy
      go_wp2_with (at_builtin; refine wpList_app _ rfl _ _ _ rfl Tryz.underlying107 info_row rfl (by decide) HO.out rfl HS2.out rfl (by simp [Value.oneCell']) H63.out.1 H63.out.2 ?_; intro v3 w3 ho3 hg3 hnil3 hat3; clear hnil3; have HO3 := Lib.hid ho3; clear ho3; have HG3 := Lib.hid hg3; clear hg3; have HAT3 := Lib.hid hat3; clear hat3)
      have hzz := HAL.out.size
      have hz3 := HG3.out.size
      have hpush := Bss.push HO.out HS.out HR.out HU.out HO3.out HG3.out HAT3.out (by have := hb1.size; omega)
      rw [← HN.out] at hpush
      have hbA : Below w.heap.size w (w1.alloc (.cells #[.slice A1 y.length c1] 77)) := hb1.trans (HAL.out.mono hb1.size)
      have hbw3 := HF2.out.trans (HAL.out.mono hsz1)
      refine ⟨⟨k + 1, by omega, by push_cast; rfl, hpush, hbA.trans (HG3.out.below hbA.size fun b h => by have h1 := HS.out b h; have h2 := HBOX.out.lt; omega), by omega, (HBOX.out.below hbw3 HBOX.out.lt).chg HG3.out fun h => by have h1 := HS.out _ h; have h2 := hMb; omega⟩, ?_⟩
      simp only [intOf]
      omega
    · have hk' : k = (List.length (α := (tHeader).El) x0) := by omega
      rw [hk', List.take_length] at hB
      have hsm : ∀ x ∈ List.map (tHeader).enc x0, x.length ≤ 140737488355328 := fun x hx => by
        have h1 := joinP_mem hx
        have h2 := HE0.out
        have h3 : ((Sh.list tHeader).enc x0).length = 8 + (joinP (List.map (tHeader).enc x0)).length := joinB_length _
        omega
      have hEJ0 := HEJ0.out
      obtain ⟨R0m, hR0m⟩ : ∃ R, R = List.map (tHeader).enc x0 := ⟨_, rfl⟩
      rw [← hR0m] at hB hsm hEJ0
      have HRm0 := Lib.hid hR0m
      have HEK0 := Lib.hid hEJ0
      clear hR0m hEJ0
      have V0 := Lib.hid (((hB.read hsm).lt_ (T := fun _ => True) fun _ _ => trivial).subs (T := fun b => b < wr.heap.size) fun b hb _ => hb.2)
      obtain ⟨Ao0, co0, rfl⟩ := hB.form
      have hbc0 := (HF.out wr hbox).1
      clear hB hsm
      obtain ⟨w_0, hw_0⟩ : ∃ w', w' = wr := ⟨_, rfl⟩
      subst hw_0
      have HBX0 := Lib.hid hbox; have hmb0 := hbox.lt; clear hbox
      go_wp2_with fail
      clear hlt hk hk'
      have hsz := HBX0.out.lt
      have hb0 : Blk w_0.drew w.heap.size 90 C.toArray := HBX0.out.drew
      have hbw : Below w.heap.size w w_0.drew := (hbl).drew
      refine wp_region_hoist [0, 2, 3] [1, 4] [5, 6, 7] (fun w' => Blk w' w.heap.size 90 C.toArray)
        (by kernel_rfl) (by kernel_rfl) (by kernel_rfl) (by kernel_rfl) (by kernel_rfl) (by kernel_rfl) hb0 ?_
      (refine HoistK.yes (by rfl) (by kernel_rfl) ⟨?_, fun w' hSw => ?_, ?_⟩; rotate_left; (· go_simp; try with_reducible rfl); simp only [Act.put, setIfInBounds_toArray, getElem_toArray, getElem_cons_zero, set_cons_succ, set_cons_zero])
      (refine HoistK.yes (by rfl) (by kernel_rfl) ⟨?_, fun w' hSw => ?_, ?_⟩; rotate_left; (· go_simp; try with_reducible rfl); simp only [Act.put, setIfInBounds_toArray, getElem_toArray, getElem_cons_succ, getElem_cons_zero, set_cons_succ, set_cons_zero])
      (refine HoistK.load (by rfl) (by kernel_rfl) 88 _ rfl w.heap.size 1 rfl (y1) _ (fun w' hw => (HF.out w' hw).2) Tryz.underlying88 rfl (by rw [L1.out]; kernel_rfl) ?_; simp only [Act.put, setIfInBounds_toArray, getElem_toArray, getElem_cons_succ, getElem_cons_zero, set_cons_succ, set_cons_zero])
      refine HoistK.nil_ ?_
      simp only [opsAt, filterMap_cons, filterMap_nil, getElem?_toArray, getElem?_cons_succ, getElem?_cons_zero]
      have g0 : Got w_0.drew w_0.drew [] [] := Got.start (Below.refl _ _)
      refine Effects.cons_ fun _ hQ1 => ?_
      go_wp2_with fail
      refine (rJoin_any _ (V0.out.drew_.below g0.1) HEK0.out (fun b hb => ltle hb g0.1.size)).mono ?_
      rintro e u1 ⟨v1, rfl, f1⟩
      rw [HRm0.out] at f1
      have f1 : Fresh _ _ _ ((Sh.list tHeader).enc x0) := f1
      have g1 := g0.step f1
      have hb1 := hb0.below f1.2 hb0.lt
      clear f1
      go_wp2_with fail
      refine hQ1 _ _ hb1 (Effects.cons_ fun _ hQ2 => ?_)
      clear hQ1 hb0 g0
      go_wp2_with fail
      refine (rQC_any _ (Sh.rep_below R1.out (hbw.trans (g1.1.mono hbw.size))) (by have h1 := HLL.out; rw [joinB_length] at h1; have h2 := joinP_mem (l := [(Sh.list tHeader).enc x0, tQC.enc x1]) (x := tQC.enc x1) (by simp); omega)).mono ?_
      rintro e u2 ⟨v2, rfl, f2⟩
      have g2 := g1.step f2
      have hb2 := hb1.below f2.2 hb1.lt
      clear f2
      go_wp2_with fail
      refine hQ2 _ _ hb2 (Effects.nil_ fun _ hQ3 => ?_)
      clear hQ2 hb1 g1
      have hcs : ∀ v ∈ [v1, v2], v.cells = #[v] := fun v hv => by
        obtain ⟨i, hi, rfl⟩ := List.getElem_of_mem hv
        obtain ⟨y, _, hr⟩ := g2.2.get i hi
        obtain ⟨A, c, e⟩ := hr.form
        have e' : [v1, v2][i] = .slice A y.length c := e
        rw [e']; rfl
      refine wpList_rows rfl 2 _ rfl [v1, v2] rfl (by decide) (by decide) hcs (by simp [Act.eval]) ?_
      have hr : Bsr (u2.alloc (.cells [v1, v2].toArray 77)) (fun b => b < u2.heap.size + 1) (.slice (some ⟨u2.heap.size, 0, none⟩) 2 2) [(Sh.list tHeader).enc x0, tQC.enc x1] := g2.row (by simp [maxLen]) 77
      have hj := rJoin_any _ hr (by have := HLL.out; omega) (fun b hb => by simpa using hb)
      have hbb : Below w.heap.size w (u2.alloc (.cells [v1, v2].toArray 77)) := (hbw.trans (g2.1.mono hbw.size)).alloc (hbw.trans (g2.1.mono hbw.size)).size _
      have HJ := Lib.hid hj
      have HBB := Lib.hid hbb
      clear hj hbb hr g2 hcs
      go_wp2_with fail
      refine HJ.out.mono ?_
      rintro e uz ⟨vz, rfl, fz⟩
      go_wp2_with fail
      go_ret
      exact ⟨vz, rfl, fz.1.sub fun b hb _ => ⟨Nat.le_trans HBB.out.size hb.1, hb.2⟩, HBB.out.trans (fz.2.mono HBB.out.size)⟩
end
section
open Go.RowKit Go.Maps
attribute [-simp] Tryz.isAgg37 Tryz.typeInfo37 Tryz.isAgg90 Tryz.typeInfo90
set_option maxHeartbeats 8000000 in
set_option maxRecDepth 100000 in
theorem rFact_any (w : World) {S : Nat → Prop} {x : tFact.El} {cs : List Value} (h : tFact.rep w S x cs) (hl : (tFact.enc x).length ≤ 1099511627776) :
    Calls Tryz.prog 53 #[.agg cs.toArray] w fun e w' => ∃ v', e = .returned v' ∧ Fresh w w' v' (tFact.enc x) := by
  obtain ⟨x0, x1, x2, x3, x4, _⟩ := x
  obtain ⟨c0, _, rfl, r0, c1, _, rfl, ⟨rfl, l1⟩, c2, _, rfl, ⟨y2, rfl, r2⟩, c3, _, rfl, rfl, c4, _, rfl, ⟨y4, rfl, r4⟩, rfl⟩ := h
  have l0 : c0.length = 38 := Sh.rep_size _ _ _ r0
  obtain ⟨y0, hy0⟩ : ∃ y, y = c0 := ⟨_, rfl⟩
  subst hy0
  have R0 := Lib.hid r0; clear r0
  have R2 := Lib.hid r2; clear r2
  have R4 := Lib.hid r4; clear r4
  obtain ⟨C, hC⟩ : ∃ C, C = y0 ++ (u8s x1 ++ ([y2] ++ ([Value.bool x3] ++ ([y4] ++ ([]))))) := ⟨_, rfl⟩
  rw [← hC]
  have hf : ∀ w', Blk w' w.heap.size 92 C.toArray → w'.rangeAt w.heap.size 0 y0 ∧ w'.rangeAt w.heap.size 38 (u8s x1) ∧ w'.cell? ⟨w.heap.size, 70, none⟩ = some y2 ∧ w'.cell? ⟨w.heap.size, 71, none⟩ = some (.bool x3) ∧ w'.cell? ⟨w.heap.size, 72, none⟩ = some y4 := fun w' hb => by
    have := hb.lies [y0, u8s x1, [y2], [Value.bool x3], [y4]] [] (by rw [hC]; simp)
    simp only [Lies, u8s_length, l0, l1, List.length_cons, List.length_nil] at this
    obtain ⟨s0, s1, s2, s3, s4, _⟩ := this
    exact ⟨s0, s1, Lies.one s2, Lies.one s3, Lies.one s4⟩
  have HF := Lib.hid hf
  clear hf hC
  have L0 := Lib.hid l0; clear l0
  have L1 := Lib.hid l1; clear l1
  have hl' : (joinB [tCommit.enc x0, x1, x2, truthB x3, x4]).length ≤ 1099511627776 := hl
  have HLL := Lib.hid hl'
  clear hl hl'
  go_enter Tryz.func53, Tryz.ntmps53
  have hbe := (Below.refl w.heap.size w).alloc (Nat.le_refl _) (.cells C.toArray 92)
  have hbx := Blk.new w 92 C.toArray
  have hbool := (HF.out _ hbx).2.2.2.1
  rw [hbx.cell] at hbool
  have hbool : C[71]? = some (.bool x3) := by simpa using hbool
  have HBE := Lib.hid hbe
  have HBX := Lib.hid hbx
  have hn2 : ∀ y : UInt8, Bs ((w.alloc (.cells C.toArray 92)).alloc (.cells #[.int .u8 y.toNat] 5)) (fun b => b = w.heap.size + 1) (.slice (some ⟨w.heap.size + 1, 0, none⟩) 1 1) [y] := fun y => by
    have := Bs.of_new (w.alloc (.cells C.toArray 92)) 5 [y] (by simp) (0, 0)
    rwa [show (w.alloc (.cells C.toArray 92)).heap.size = w.heap.size + 1 by simp] at this
  have HN2 := Lib.hid hn2
  clear hbe hbx hn2
  cases x3
  · go_wp2_with fail
    have hbw2 : Below w.heap.size w ((w.alloc (.cells C.toArray 92)).alloc (.cells #[.int .u8 0] 5)) := HBE.out.alloc (by simp) _
    have HB3 := Lib.hid (show Bs ((w.alloc (.cells C.toArray 92)).alloc (.cells #[.int .u8 0] 5)).drew (fun b => b = w.heap.size + 1) (.slice (some ⟨w.heap.size + 1, 0, none⟩) 1 1) (truthB false) from HN2.out 0)
    have hbox2 : Blk ((w.alloc (.cells C.toArray 92)).alloc (.cells #[.int .u8 0] 5)) w.heap.size 92 C.toArray := HBX.out.alloc _
    obtain ⟨wB, hwB⟩ : ∃ wB, wB = (w.alloc (.cells C.toArray 92)).alloc (.cells #[.int .u8 0] 5) := ⟨_, rfl⟩
    rw [← hwB] at hbw2 HB3 hbox2 ⊢
    have HWB := Lib.hid hwB; clear hwB
    have hsz := hbox2.lt
    have hb0 : Blk wB.drew w.heap.size 92 C.toArray := hbox2.drew
    have hbw : Below w.heap.size w wB.drew := (hbw2).drew
    have D1 := Lib.hid (Bs.of_range32 (S := fun b => b = w.heap.size) rfl hb0.lt ((HF.out _ hb0).2.1) L1.out)
    refine wp_region_hoist [0, 1, 3, 4, 5, 6, 7, 8, 9] [2] [10, 11, 12] (fun w' => Blk w' w.heap.size 92 C.toArray)
      (by kernel_rfl) (by kernel_rfl) (by kernel_rfl) (by kernel_rfl) (by kernel_rfl) (by kernel_rfl) hb0 ?_
    (refine HoistK.yes (by rfl) (by kernel_rfl) ⟨?_, fun w' hSw => ?_, ?_⟩; rotate_left; (· go_simp; try with_reducible rfl); simp only [Act.put, setIfInBounds_toArray, getElem_toArray, getElem_cons_zero, set_cons_succ, set_cons_zero])
    (refine HoistK.load (by rfl) (by kernel_rfl) 90 _ rfl w.heap.size 0 rfl (y0) _ (fun w' hw => (HF.out w' hw).1) Tryz.underlying90 rfl (by rw [L0.out]; kernel_rfl) ?_; simp only [Act.put, setIfInBounds_toArray, getElem_toArray, getElem_cons_succ, getElem_cons_zero, set_cons_succ, set_cons_zero])
    iterate 3 (refine HoistK.yes (by rfl) (by kernel_rfl) ⟨?_, fun w' hSw => ?_, ?_⟩; rotate_left; (· go_simp; try with_reducible rfl); simp only [Act.put, setIfInBounds_toArray, getElem_toArray, getElem_cons_succ, getElem_cons_zero, set_cons_succ, set_cons_zero])
    (refine HoistK.yes (by rfl) (by kernel_rfl) ⟨?_, fun w' hSw => ?_, ?_⟩; rotate_left; (· obtain ⟨s0, s1, s2, s3, s4⟩ := HF.out _ hSw; go_simp; try with_reducible rfl); simp only [Act.put, setIfInBounds_toArray, getElem_toArray, getElem_cons_succ, getElem_cons_zero, set_cons_succ, set_cons_zero])
    iterate 2 (refine HoistK.yes (by rfl) (by kernel_rfl) ⟨?_, fun w' hSw => ?_, ?_⟩; rotate_left; (· go_simp; try with_reducible rfl); simp only [Act.put, setIfInBounds_toArray, getElem_toArray, getElem_cons_succ, getElem_cons_zero, set_cons_succ, set_cons_zero])
    (refine HoistK.yes (by rfl) (by kernel_rfl) ⟨?_, fun w' hSw => ?_, ?_⟩; rotate_left; (· obtain ⟨s0, s1, s2, s3, s4⟩ := HF.out _ hSw; go_simp; try with_reducible rfl); simp only [Act.put, setIfInBounds_toArray, getElem_toArray, getElem_cons_succ, getElem_cons_zero, set_cons_succ, set_cons_zero])
    refine HoistK.nil_ ?_
    simp only [opsAt, filterMap_cons, filterMap_nil, getElem?_toArray, getElem?_cons_succ, getElem?_cons_zero]
    have g0 : Got wB.drew wB.drew [] [] := Got.start (Below.refl _ _)
    refine Effects.cons_ fun _ hQ1 => ?_
    go_wp2_with fail
    refine (rCommit_any _ (Sh.rep_below R0.out (hbw.trans (g0.1.mono hbw.size))) (by have h1 := HLL.out; rw [joinB_length] at h1; have h2 := joinP_mem (l := [tCommit.enc x0, x1, x2, truthB false, x4]) (x := tCommit.enc x0) (by simp); omega)).mono ?_
    rintro e u1 ⟨v1, rfl, f1⟩
    have g1 := g0.step f1
    have hb1 := hb0.below f1.2 hb0.lt
    clear f1
    go_wp2_with fail
    refine hQ1 _ _ hb1 (Effects.nil_ fun _ hQ2 => ?_)
    clear hQ1 hb0 g0
    have g2 := g1.old D1.out
    clear g1
    have g3 := g2.old (R2.out.below hbw)
    clear g2
    have g4 := g3.old HB3.out
    clear g3
    have g5 := g4.old (R4.out.below hbw)
    clear g4
    have hcs : ∀ v ∈ [v1, (.slice (some ⟨w.heap.size, 38, none⟩) 32 32), y2, (.slice (some ⟨w.heap.size + 1, 0, none⟩) 1 1), y4], v.cells = #[v] := fun v hv => by
      obtain ⟨i, hi, rfl⟩ := List.getElem_of_mem hv
      obtain ⟨y, _, hr⟩ := g5.2.get i hi
      obtain ⟨A, c, e⟩ := hr.form
      have e' : [v1, (.slice (some ⟨w.heap.size, 38, none⟩) 32 32), y2, (.slice (some ⟨w.heap.size + 1, 0, none⟩) 1 1), y4][i] = .slice A y.length c := e
      rw [e']; rfl
    refine wpList_rows rfl 5 _ rfl [v1, (.slice (some ⟨w.heap.size, 38, none⟩) 32 32), y2, (.slice (some ⟨w.heap.size + 1, 0, none⟩) 1 1), y4] rfl (by decide) (by decide) hcs (by simp [Act.eval]) ?_
    have hr : Bsr (u1.alloc (.cells [v1, (.slice (some ⟨w.heap.size, 38, none⟩) 32 32), y2, (.slice (some ⟨w.heap.size + 1, 0, none⟩) 1 1), y4].toArray 77)) (fun b => b < u1.heap.size + 1) (.slice (some ⟨u1.heap.size, 0, none⟩) 5 5) [tCommit.enc x0, x1, x2, truthB false, x4] := g5.row (by simp [maxLen]) 77
    have hj := rJoin_any _ hr (by have := HLL.out; omega) (fun b hb => by simpa using hb)
    have hbb : Below w.heap.size w (u1.alloc (.cells [v1, (.slice (some ⟨w.heap.size, 38, none⟩) 32 32), y2, (.slice (some ⟨w.heap.size + 1, 0, none⟩) 1 1), y4].toArray 77)) := (hbw.trans (g5.1.mono hbw.size)).alloc (hbw.trans (g5.1.mono hbw.size)).size _
    have HJ := Lib.hid hj
    have HBB := Lib.hid hbb
    clear hj hbb hr g5 hcs
    go_wp2_with fail
    refine HJ.out.mono ?_
    rintro e uz ⟨vz, rfl, fz⟩
    go_wp2_with fail
    go_ret
    exact ⟨vz, rfl, fz.1.sub fun b hb _ => ⟨Nat.le_trans HBB.out.size hb.1, hb.2⟩, HBB.out.trans (fz.2.mono HBB.out.size)⟩
  · go_wp2_with fail
    have hbw2 : Below w.heap.size w ((w.alloc (.cells C.toArray 92)).alloc (.cells #[.int .u8 1] 5)) := HBE.out.alloc (by simp) _
    have HB3 := Lib.hid (show Bs ((w.alloc (.cells C.toArray 92)).alloc (.cells #[.int .u8 1] 5)).drew (fun b => b = w.heap.size + 1) (.slice (some ⟨w.heap.size + 1, 0, none⟩) 1 1) (truthB true) from HN2.out 1)
    have hbox2 : Blk ((w.alloc (.cells C.toArray 92)).alloc (.cells #[.int .u8 1] 5)) w.heap.size 92 C.toArray := HBX.out.alloc _
    obtain ⟨wB, hwB⟩ : ∃ wB, wB = (w.alloc (.cells C.toArray 92)).alloc (.cells #[.int .u8 1] 5) := ⟨_, rfl⟩
    rw [← hwB] at hbw2 HB3 hbox2 ⊢
    have HWB := Lib.hid hwB; clear hwB
    have hsz := hbox2.lt
    have hb0 : Blk wB.drew w.heap.size 92 C.toArray := hbox2.drew
    have hbw : Below w.heap.size w wB.drew := (hbw2).drew
    have D1 := Lib.hid (Bs.of_range32 (S := fun b => b = w.heap.size) rfl hb0.lt ((HF.out _ hb0).2.1) L1.out)
    refine wp_region_hoist [0, 1, 3, 4, 5, 6, 7, 8, 9] [2] [10, 11, 12] (fun w' => Blk w' w.heap.size 92 C.toArray)
      (by kernel_rfl) (by kernel_rfl) (by kernel_rfl) (by kernel_rfl) (by kernel_rfl) (by kernel_rfl) hb0 ?_
    (refine HoistK.yes (by rfl) (by kernel_rfl) ⟨?_, fun w' hSw => ?_, ?_⟩; rotate_left; (· go_simp; try with_reducible rfl); simp only [Act.put, setIfInBounds_toArray, getElem_toArray, getElem_cons_zero, set_cons_succ, set_cons_zero])
    (refine HoistK.load (by rfl) (by kernel_rfl) 90 _ rfl w.heap.size 0 rfl (y0) _ (fun w' hw => (HF.out w' hw).1) Tryz.underlying90 rfl (by rw [L0.out]; kernel_rfl) ?_; simp only [Act.put, setIfInBounds_toArray, getElem_toArray, getElem_cons_succ, getElem_cons_zero, set_cons_succ, set_cons_zero])
    iterate 3 (refine HoistK.yes (by rfl) (by kernel_rfl) ⟨?_, fun w' hSw => ?_, ?_⟩; rotate_left; (· go_simp; try with_reducible rfl); simp only [Act.put, setIfInBounds_toArray, getElem_toArray, getElem_cons_succ, getElem_cons_zero, set_cons_succ, set_cons_zero])
    (refine HoistK.yes (by rfl) (by kernel_rfl) ⟨?_, fun w' hSw => ?_, ?_⟩; rotate_left; (· obtain ⟨s0, s1, s2, s3, s4⟩ := HF.out _ hSw; go_simp; try with_reducible rfl); simp only [Act.put, setIfInBounds_toArray, getElem_toArray, getElem_cons_succ, getElem_cons_zero, set_cons_succ, set_cons_zero])
    iterate 2 (refine HoistK.yes (by rfl) (by kernel_rfl) ⟨?_, fun w' hSw => ?_, ?_⟩; rotate_left; (· go_simp; try with_reducible rfl); simp only [Act.put, setIfInBounds_toArray, getElem_toArray, getElem_cons_succ, getElem_cons_zero, set_cons_succ, set_cons_zero])
    (refine HoistK.yes (by rfl) (by kernel_rfl) ⟨?_, fun w' hSw => ?_, ?_⟩; rotate_left; (· obtain ⟨s0, s1, s2, s3, s4⟩ := HF.out _ hSw; go_simp; try with_reducible rfl); simp only [Act.put, setIfInBounds_toArray, getElem_toArray, getElem_cons_succ, getElem_cons_zero, set_cons_succ, set_cons_zero])
    refine HoistK.nil_ ?_
    simp only [opsAt, filterMap_cons, filterMap_nil, getElem?_toArray, getElem?_cons_succ, getElem?_cons_zero]
    have g0 : Got wB.drew wB.drew [] [] := Got.start (Below.refl _ _)
    refine Effects.cons_ fun _ hQ1 => ?_
    go_wp2_with fail
    refine (rCommit_any _ (Sh.rep_below R0.out (hbw.trans (g0.1.mono hbw.size))) (by have h1 := HLL.out; rw [joinB_length] at h1; have h2 := joinP_mem (l := [tCommit.enc x0, x1, x2, truthB true, x4]) (x := tCommit.enc x0) (by simp); omega)).mono ?_
    rintro e u1 ⟨v1, rfl, f1⟩
    have g1 := g0.step f1
    have hb1 := hb0.below f1.2 hb0.lt
    clear f1
    go_wp2_with fail
    refine hQ1 _ _ hb1 (Effects.nil_ fun _ hQ2 => ?_)
    clear hQ1 hb0 g0
    have g2 := g1.old D1.out
    clear g1
    have g3 := g2.old (R2.out.below hbw)
    clear g2
    have g4 := g3.old HB3.out
    clear g3
    have g5 := g4.old (R4.out.below hbw)
    clear g4
    have hcs : ∀ v ∈ [v1, (.slice (some ⟨w.heap.size, 38, none⟩) 32 32), y2, (.slice (some ⟨w.heap.size + 1, 0, none⟩) 1 1), y4], v.cells = #[v] := fun v hv => by
      obtain ⟨i, hi, rfl⟩ := List.getElem_of_mem hv
      obtain ⟨y, _, hr⟩ := g5.2.get i hi
      obtain ⟨A, c, e⟩ := hr.form
      have e' : [v1, (.slice (some ⟨w.heap.size, 38, none⟩) 32 32), y2, (.slice (some ⟨w.heap.size + 1, 0, none⟩) 1 1), y4][i] = .slice A y.length c := e
      rw [e']; rfl
    refine wpList_rows rfl 5 _ rfl [v1, (.slice (some ⟨w.heap.size, 38, none⟩) 32 32), y2, (.slice (some ⟨w.heap.size + 1, 0, none⟩) 1 1), y4] rfl (by decide) (by decide) hcs (by simp [Act.eval]) ?_
    have hr : Bsr (u1.alloc (.cells [v1, (.slice (some ⟨w.heap.size, 38, none⟩) 32 32), y2, (.slice (some ⟨w.heap.size + 1, 0, none⟩) 1 1), y4].toArray 77)) (fun b => b < u1.heap.size + 1) (.slice (some ⟨u1.heap.size, 0, none⟩) 5 5) [tCommit.enc x0, x1, x2, truthB true, x4] := g5.row (by simp [maxLen]) 77
    have hj := rJoin_any _ hr (by have := HLL.out; omega) (fun b hb => by simpa using hb)
    have hbb : Below w.heap.size w (u1.alloc (.cells [v1, (.slice (some ⟨w.heap.size, 38, none⟩) 32 32), y2, (.slice (some ⟨w.heap.size + 1, 0, none⟩) 1 1), y4].toArray 77)) := (hbw.trans (g5.1.mono hbw.size)).alloc (hbw.trans (g5.1.mono hbw.size)).size _
    have HJ := Lib.hid hj
    have HBB := Lib.hid hbb
    clear hj hbb hr g5 hcs
    go_wp2_with fail
    refine HJ.out.mono ?_
    rintro e uz ⟨vz, rfl, fz⟩
    go_wp2_with fail
    go_ret
    exact ⟨vz, rfl, fz.1.sub fun b hb _ => ⟨Nat.le_trans HBB.out.size hb.1, hb.2⟩, HBB.out.trans (fz.2.mono HBB.out.size)⟩
end
section
open Go.RowKit Go.Maps
attribute [-simp] Tryz.isAgg37 Tryz.typeInfo37 Tryz.isAgg92 Tryz.typeInfo92
set_option maxHeartbeats 8000000 in
set_option maxRecDepth 100000 in
theorem rTx_any (w : World) {S : Nat → Prop} {x : tTx.El} {cs : List Value} (h : tTx.rep w S x cs) (hl : (tTx.enc x).length ≤ 1099511627776) :
    Calls Tryz.prog 34 #[.agg cs.toArray] w fun e w' => ∃ v', e = .returned v' ∧ Fresh w w' v' (tTx.enc x) := by
  obtain ⟨x0, x1, x2, x3, x4, x5, x6, x7, x8, x9, _⟩ := x
  obtain ⟨c0, _, rfl, ⟨rfl, _⟩, c1, _, rfl, ⟨rfl, q1⟩, c2, _, rfl, ⟨rfl, q2⟩, c3, _, rfl, ⟨rfl, q3⟩, c4, _, rfl, ⟨rfl, q4⟩, c5, _, rfl, ⟨rfl, _⟩, c6, _, rfl, ⟨rfl, _⟩, c7, _, rfl, ⟨rfl, l7⟩, c8, _, rfl, ⟨rfl, _⟩, c9, _, rfl, r9, rfl⟩ := h
  obtain ⟨y9, rfl⟩ : ∃ y, c9 = [y] := by obtain ⟨v, _, e, _⟩ := r9; exact ⟨v, e⟩
  obtain ⟨A9, cap9, rfl, hlen9, _⟩ := list_at r9
  have Q1 := Lib.hid q1; clear q1
  have Q2 := Lib.hid q2; clear q2
  have Q3 := Lib.hid q3; clear q3
  have Q4 := Lib.hid q4; clear q4
  have R9 := Lib.hid r9; clear r9
  simp only [nk_t, nk_f]
  obtain ⟨C, hC⟩ : ∃ C, C = [Value.int .i64 x0] ++ ([Value.int .u64 x1] ++ ([Value.int .u64 x2] ++ ([Value.int .u64 x3] ++ ([Value.int .u64 x4] ++ ([Value.int .i64 x5] ++ ([Value.int .i64 x6] ++ (u8s x7 ++ ([Value.int .i64 x8] ++ ([Value.slice A9 (List.length (α := (tFact).El) x9) cap9] ++ ([])))))))))) := ⟨_, rfl⟩
  rw [← hC]
  have hf : ∀ w', Blk w' w.heap.size 40 C.toArray → w'.cell? ⟨w.heap.size, 0, none⟩ = some (.int .i64 x0) ∧ w'.cell? ⟨w.heap.size, 1, none⟩ = some (.int .u64 x1) ∧ w'.cell? ⟨w.heap.size, 2, none⟩ = some (.int .u64 x2) ∧ w'.cell? ⟨w.heap.size, 3, none⟩ = some (.int .u64 x3) ∧ w'.cell? ⟨w.heap.size, 4, none⟩ = some (.int .u64 x4) ∧ w'.cell? ⟨w.heap.size, 5, none⟩ = some (.int .i64 x5) ∧ w'.cell? ⟨w.heap.size, 6, none⟩ = some (.int .i64 x6) ∧ w'.rangeAt w.heap.size 7 (u8s x7) ∧ w'.cell? ⟨w.heap.size, 39, none⟩ = some (.int .i64 x8) ∧ w'.cell? ⟨w.heap.size, 40, none⟩ = some (.slice A9 (List.length (α := (tFact).El) x9) cap9) := fun w' hb => by
    have := hb.lies [[Value.int .i64 x0], [Value.int .u64 x1], [Value.int .u64 x2], [Value.int .u64 x3], [Value.int .u64 x4], [Value.int .i64 x5], [Value.int .i64 x6], u8s x7, [Value.int .i64 x8], [Value.slice A9 (List.length (α := (tFact).El) x9) cap9]] [] (by rw [hC]; simp)
    simp only [Lies, u8s_length, l7, List.length_cons, List.length_nil] at this
    obtain ⟨s0, s1, s2, s3, s4, s5, s6, s7, s8, s9, _⟩ := this
    exact ⟨Lies.one s0, Lies.one s1, Lies.one s2, Lies.one s3, Lies.one s4, Lies.one s5, Lies.one s6, s7, Lies.one s8, Lies.one s9⟩
  have HF := Lib.hid hf
  clear hf hC
  have L7 := Lib.hid l7; clear l7
  have hl' : (joinB [numB x0, numB x1, numB x2, numB x3, numB x4, numB x5, numB x6, x7, numB x8, (Sh.list tFact).enc x9]).length ≤ 1099511627776 := hl
  have HLL := Lib.hid hl'
  clear hl hl'
  have HE9 := Lib.hid (show ((Sh.list tFact).enc x9).length ≤ 1099511627776 from (by have h1 := HLL.out; rw [joinB_length] at h1; have h2 := joinP_mem (l := [numB x0, numB x1, numB x2, numB x3, numB x4, numB x5, numB x6, x7, numB x8, (Sh.list tFact).enc x9]) (x := (Sh.list tFact).enc x9) (by simp); omega))
  have hcn9 : (List.length (α := (tFact).El) x9) ≤ 137438953472 := by
    have h1 := HE9.out
    have h2 := joinP_count (List.map (tFact).enc x9)
    have h3 : ((Sh.list tFact).enc x9).length = 8 + (joinP (List.map (tFact).enc x9)).length := joinB_length _
    rw [List.length_map] at h2
    omega
  have HEJ9 := Lib.hid (show (joinB (List.map (tFact).enc x9)).length ≤ 140737488355328 from by
    have h1 := HE9.out
    have h3 : ((Sh.list tFact).enc x9).length = 8 + (joinP (List.map (tFact).enc x9)).length := joinB_length _
    rw [joinB_length]
    omega)
  go_enter Tryz.func34, Tryz.ntmps34
  go_wp2_with fail
  have hbe := (Below.refl w.heap.size w).alloc (Nat.le_refl _) (.cells C.toArray 40)
  have hal0 : Below (w.heap.size + 1) (w.alloc (.cells C.toArray 40)) ((w.alloc (.cells C.toArray 40)).alloc (.cells #[] 77)) := (Below.refl _ _).alloc (by simp) _
  have hMb : w.heap.size < w.heap.size + 1 := by omega
  go_loopw [3, 4] (fun o i wr => ∃ k : Nat, k ≤ (List.length (α := (tFact).El) x9) ∧ i = .int .i64 k ∧ Bss wr (fun b => (w.heap.size + 1) ≤ b) (fun b => (w.heap.size + 1) ≤ b) o ((List.take k x9).map (tFact).enc) ∧ Below w.heap.size w wr ∧ (w.heap.size + 1) ≤ wr.heap.size ∧ Blk wr w.heap.size 40 C.toArray) (fun _ i _ => (List.length (α := (tFact).El) x9) - (intOf i).toNat)
  case atStart => exact ⟨0, Nat.zero_le _, rfl, Bss.empty1 w _, hbe.alloc (by simp) _, by simp, ((Blk.new w _ _).alloc _)⟩
  case round =>
    obtain ⟨k, hk, rfl, hB, hbl, hMz, hbox⟩ := hrel
    by_cases hlt : k < (List.length (α := (tFact).El) x9)
    · obtain ⟨R, hR⟩ : ∃ R, R = (List.take k x9).map (tFact).enc := ⟨_, rfl⟩
      rw [← hR] at hB
      have hRl : R.length = k := by rw [hR, List.length_map, List.length_take]; omega
      have hnext : (List.take (k + 1) x9).map (tFact).enc = R ++ [(tFact).enc (x9[k]'hlt)] := by rw [List.take_succ_eq_append_getElem hlt, List.map_append, ← hR]; rfl
      obtain ⟨Aa, ca, rfl⟩ := hB.form
      obtain ⟨_, _, e, _, hat⟩ := list_at (Sh.rep_below R9.out hbl)
      injection e with e1 e2 e3
      subst e1 e3
      obtain ⟨b, off, c, rfl, hca, hr, hcl, hblt, _⟩ := hat k hlt
      obtain ⟨x, hx⟩ : ∃ x, x = x9[k]'hlt := ⟨_, rfl⟩
      rw [← hx] at hr hnext
      have hsm2 : ((tFact).enc x).length ≤ 1099511627776 := by
        have h1 := joinP_mem (List.mem_map.2 ⟨x9[k]'hlt, List.getElem_mem hlt, rfl⟩ : (tFact).enc (x9[k]'hlt) ∈ List.map (tFact).enc x9)
        have h2 := HE9.out
        have h3 : ((Sh.list tFact).enc x9).length = 8 + (joinP (List.map (tFact).enc x9)).length := joinB_length _
        rw [hx]; omega
      have hinfo : (Tryz.prog.info? 92).map (·.size) = some c.length := by rw [hcl]; kernel_rfl
      have HCA := Lib.hid (show wr.rangeAt b (off + k * 73) c from hca)
      have HI := Lib.hid hinfo
      clear hinfo
      have HREP := Lib.hid hr
      have HSM := Lib.hid hsm2
      clear hr hsm2
      have hown : ∀ k, (Value.slice Aa R.length ca).ownBlock = some k → k < wr.heap.size := fun k hk => by obtain ⟨vs, ho, _⟩ := hB; exact own_lt ho hk
      have hbc := (HF.out wr hbox).2.2.2.2.2.2.2.2.2
      have HB := Lib.hid hB
      have HN := Lib.hid hnext
      have HRL := Lib.hid hRl
      have HOWN := Lib.hid hown
      have HBOX := Lib.hid hbox
      clear hB hca hcl hat hx hR hnext hRl hown hbox
      go_wp2_with (refine wpList_load_mid rfl 92 _ rfl b (off + k * 73) rfl c _ HCA.out Tryz.underlying92 rfl HI.out ?_)
      refine (rFact_any _ HREP.out HSM.out).mono ?_
      rintro e w1 ⟨v1, rfl, f1⟩
      have hb1 := hbl.trans (f1.2.mono hbl.size)
      obtain ⟨y, hy⟩ : ∃ y, y = (tFact).enc x := ⟨_, rfl⟩
      have f1 : Fresh wr w1 v1 y := hy ▸ f1
      rw [← hy] at HN
      obtain ⟨A1, c1, rfl⟩ := f1.1.form
      obtain ⟨vs, ho, hS, hr⟩ := HB.out.below f1.2
      have hsz1 := f1.2.size
      have hal : Below w1.heap.size w1 (w1.alloc (.cells #[.slice A1 y.length c1] 77)) := (Below.refl _ w1).alloc (Nat.le_refl _) _
      have HAL := Lib.hid hal
      have HO := Lib.hid (show Own (w1.alloc (.cells #[.slice A1 y.length c1] 77)) _ _ _ _ _ from own_keep ho fun k hk => hal.block k (own_lt ho hk))
      have HS := Lib.hid hS
      have HR := Lib.hid (fun i x u h1 h2 => (hr i x u h1 h2).below hal)
      have HU := Lib.hid ((f1.1.1.below hal).sub (T := fun b => (w.heap.size + 1) ≤ b ∧ (Value.slice Aa R.length ca).ownBlock ≠ some b) fun b hb _ => ⟨Nat.le_trans hMz hb.1, fun e => by have := HOWN.out b e; omega⟩)
      have HS2 := Lib.hid (Cs.of_new w1 77 (size := 1) 1 (cs := [.slice A1 y.length c1]) rfl (by simp only [maxLen]; decide))
      have H63 := Lib.hid (show R.length + 1 ≤ maxLen ∧ (R.length + 1) * 24 ≤ 140737488355328 from by have := HRL.out; refine ⟨by simp only [maxLen]; omega, by omega⟩)
      have HF2 := Lib.hid f1.2
      clear ho hS hr hal f1 hy
      go_wp2_with (at_builtin; refine wpList_app _ rfl _ _ _ rfl Tryz.underlying107 info_row rfl (by decide) HO.out rfl HS2.out rfl (by simp [Value.oneCell']) H63.out.1 H63.out.2 ?_; intro v3 w3 ho3 hg3 hnil3 hat3; clear hnil3; have HO3 := Lib.hid ho3; clear ho3; have HG3 := Lib.hid hg3; clear hg3; have HAT3 := Lib.hid hat3; clear hat3)
      have hzz := HAL.out.size
      have hz3 := HG3.out.size
      have hpush := Bss.push HO.out HS.out HR.out HU.out HO3.out HG3.out HAT3.out (by have := hb1.size; omega)
      rw [← HN.out] at hpush
      have hbA : Below w.heap.size w (w1.alloc (.cells #[.slice A1 y.length c1] 77)) := hb1.trans (HAL.out.mono hb1.size)
      have hbw3 := HF2.out.trans (HAL.out.mono hsz1)
      refine ⟨⟨k + 1, by omega, by push_cast; rfl, hpush, hbA.trans (HG3.out.below hbA.size fun b h => by have h1 := HS.out b h; have h2 := HBOX.out.lt; omega), by omega, (HBOX.out.below hbw3 HBOX.out.lt).chg HG3.out fun h => by have h1 := HS.out _ h; have h2 := hMb; omega⟩, ?_⟩
      simp only [intOf]
      omega
    · have hk' : k = (List.length (α := (tFact).El) x9) := by omega
      rw [hk', List.take_length] at hB
      have hsm : ∀ x ∈ List.map (tFact).enc x9, x.length ≤ 140737488355328 := fun x hx => by
        have h1 := joinP_mem hx
        have h2 := HE9.out
        have h3 : ((Sh.list tFact).enc x9).length = 8 + (joinP (List.map (tFact).enc x9)).length := joinB_length _
        omega
      have hEJ9 := HEJ9.out
      obtain ⟨R9m, hR9m⟩ : ∃ R, R = List.map (tFact).enc x9 := ⟨_, rfl⟩
      rw [← hR9m] at hB hsm hEJ9
      have HRm9 := Lib.hid hR9m
      have HEK9 := Lib.hid hEJ9
      clear hR9m hEJ9
      have V9 := Lib.hid (((hB.read hsm).lt_ (T := fun _ => True) fun _ _ => trivial).subs (T := fun b => b < wr.heap.size) fun b hb _ => hb.2)
      obtain ⟨Ao9, co9, rfl⟩ := hB.form
      have hbc9 := (HF.out wr hbox).2.2.2.2.2.2.2.2.2
      clear hB hsm
      obtain ⟨w_9, hw_9⟩ : ∃ w', w' = wr := ⟨_, rfl⟩
      subst hw_9
      have HBX9 := Lib.hid hbox; have hmb9 := hbox.lt; clear hbox
      go_wp2_with fail
      clear hlt hk hk'
      have hsz := HBX9.out.lt
      have hb0 : Blk w_9.drew w.heap.size 40 C.toArray := HBX9.out.drew
      have hbw : Below w.heap.size w w_9.drew := (hbl).drew
      have D7 := Lib.hid (Bs.of_range32 (S := fun b => b = w.heap.size) rfl hb0.lt ((HF.out _ hb0).2.2.2.2.2.2.2.1) L7.out)
      refine wp_region_hoist [0, 1, 2, 4, 5, 7, 8, 10, 11, 13, 14, 16, 17, 18, 20, 21, 22, 24, 25, 26, 27, 28, 30] [3, 6, 9, 12, 15, 19, 23, 29, 31] [32, 33, 34] (fun w' => Blk w' w.heap.size 40 C.toArray)
        (by kernel_rfl) (by kernel_rfl) (by kernel_rfl) (by kernel_rfl) (by kernel_rfl) (by kernel_rfl) hb0 ?_
      (refine HoistK.yes (by rfl) (by kernel_rfl) ⟨?_, fun w' hSw => ?_, ?_⟩; rotate_left; (· go_simp; try with_reducible rfl); simp only [Act.put, setIfInBounds_toArray, getElem_toArray, getElem_cons_zero, set_cons_succ, set_cons_zero])
      (refine HoistK.yes (by rfl) (by kernel_rfl) ⟨?_, fun w' hSw => ?_, ?_⟩; rotate_left; (· obtain ⟨s0, s1, s2, s3, s4, s5, s6, s7, s8, s9⟩ := HF.out _ hSw; go_simp; try with_reducible rfl); simp only [Act.put, setIfInBounds_toArray, getElem_toArray, getElem_cons_succ, getElem_cons_zero, set_cons_succ, set_cons_zero])
      iterate 2 (refine HoistK.yes (by rfl) (by kernel_rfl) ⟨?_, fun w' hSw => ?_, ?_⟩; rotate_left; (· go_simp; try with_reducible rfl); simp only [Act.put, setIfInBounds_toArray, getElem_toArray, getElem_cons_succ, getElem_cons_zero, set_cons_succ, set_cons_zero])
      (refine HoistK.yes (by rfl) (by kernel_rfl) ⟨?_, fun w' hSw => ?_, ?_⟩; rotate_left; (· obtain ⟨s0, s1, s2, s3, s4, s5, s6, s7, s8, s9⟩ := HF.out _ hSw; go_simp; try with_reducible rfl); simp only [Act.put, setIfInBounds_toArray, getElem_toArray, getElem_cons_succ, getElem_cons_zero, set_cons_succ, set_cons_zero])
      (refine HoistK.yes (by rfl) (by kernel_rfl) ⟨?_, fun w' hSw => ?_, ?_⟩; rotate_left; (· go_simp; try with_reducible rfl); simp only [Act.put, setIfInBounds_toArray, getElem_toArray, getElem_cons_succ, getElem_cons_zero, set_cons_succ, set_cons_zero])
      (refine HoistK.yes (by rfl) (by kernel_rfl) ⟨?_, fun w' hSw => ?_, ?_⟩; rotate_left; (· obtain ⟨s0, s1, s2, s3, s4, s5, s6, s7, s8, s9⟩ := HF.out _ hSw; go_simp; try with_reducible rfl); simp only [Act.put, setIfInBounds_toArray, getElem_toArray, getElem_cons_succ, getElem_cons_zero, set_cons_succ, set_cons_zero])
      (refine HoistK.yes (by rfl) (by kernel_rfl) ⟨?_, fun w' hSw => ?_, ?_⟩; rotate_left; (· go_simp; try with_reducible rfl); simp only [Act.put, setIfInBounds_toArray, getElem_toArray, getElem_cons_succ, getElem_cons_zero, set_cons_succ, set_cons_zero])
      (refine HoistK.yes (by rfl) (by kernel_rfl) ⟨?_, fun w' hSw => ?_, ?_⟩; rotate_left; (· obtain ⟨s0, s1, s2, s3, s4, s5, s6, s7, s8, s9⟩ := HF.out _ hSw; go_simp; try with_reducible rfl); simp only [Act.put, setIfInBounds_toArray, getElem_toArray, getElem_cons_succ, getElem_cons_zero, set_cons_succ, set_cons_zero])
      (refine HoistK.yes (by rfl) (by kernel_rfl) ⟨?_, fun w' hSw => ?_, ?_⟩; rotate_left; (· go_simp; try with_reducible rfl); simp only [Act.put, setIfInBounds_toArray, getElem_toArray, getElem_cons_succ, getElem_cons_zero, set_cons_succ, set_cons_zero])
      (refine HoistK.yes (by rfl) (by kernel_rfl) ⟨?_, fun w' hSw => ?_, ?_⟩; rotate_left; (· obtain ⟨s0, s1, s2, s3, s4, s5, s6, s7, s8, s9⟩ := HF.out _ hSw; go_simp; try with_reducible rfl); simp only [Act.put, setIfInBounds_toArray, getElem_toArray, getElem_cons_succ, getElem_cons_zero, set_cons_succ, set_cons_zero])
      (refine HoistK.yes (by rfl) (by kernel_rfl) ⟨?_, fun w' hSw => ?_, ?_⟩; rotate_left; (· go_simp; try with_reducible rfl); simp only [Act.put, setIfInBounds_toArray, getElem_toArray, getElem_cons_succ, getElem_cons_zero, set_cons_succ, set_cons_zero])
      (refine HoistK.yes (by rfl) (by kernel_rfl) ⟨?_, fun w' hSw => ?_, ?_⟩; rotate_left; (· obtain ⟨s0, s1, s2, s3, s4, s5, s6, s7, s8, s9⟩ := HF.out _ hSw; go_simp; try with_reducible rfl); simp only [Act.put, setIfInBounds_toArray, getElem_toArray, getElem_cons_succ, getElem_cons_zero, set_cons_succ, set_cons_zero])
      iterate 2 (refine HoistK.yes (by rfl) (by kernel_rfl) ⟨?_, fun w' hSw => ?_, ?_⟩; rotate_left; (· go_simp; try with_reducible rfl); simp only [Act.put, setIfInBounds_toArray, getElem_toArray, getElem_cons_succ, getElem_cons_zero, set_cons_succ, set_cons_zero])
      (refine HoistK.yes (by rfl) (by kernel_rfl) ⟨?_, fun w' hSw => ?_, ?_⟩; rotate_left; (· obtain ⟨s0, s1, s2, s3, s4, s5, s6, s7, s8, s9⟩ := HF.out _ hSw; go_simp; try with_reducible rfl); simp only [Act.put, setIfInBounds_toArray, getElem_toArray, getElem_cons_succ, getElem_cons_zero, set_cons_succ, set_cons_zero])
      iterate 4 (refine HoistK.yes (by rfl) (by kernel_rfl) ⟨?_, fun w' hSw => ?_, ?_⟩; rotate_left; (· go_simp; try with_reducible rfl); simp only [Act.put, setIfInBounds_toArray, getElem_toArray, getElem_cons_succ, getElem_cons_zero, set_cons_succ, set_cons_zero])
      (refine HoistK.yes (by rfl) (by kernel_rfl) ⟨?_, fun w' hSw => ?_, ?_⟩; rotate_left; (· obtain ⟨s0, s1, s2, s3, s4, s5, s6, s7, s8, s9⟩ := HF.out _ hSw; go_simp; try with_reducible rfl); simp only [Act.put, setIfInBounds_toArray, getElem_toArray, getElem_cons_succ, getElem_cons_zero, set_cons_succ, set_cons_zero])
      iterate 2 (refine HoistK.yes (by rfl) (by kernel_rfl) ⟨?_, fun w' hSw => ?_, ?_⟩; rotate_left; (· go_simp; try with_reducible rfl); simp only [Act.put, setIfInBounds_toArray, getElem_toArray, getElem_cons_succ, getElem_cons_zero, set_cons_succ, set_cons_zero])
      refine HoistK.nil_ ?_
      simp only [opsAt, filterMap_cons, filterMap_nil, getElem?_toArray, getElem?_cons_succ, getElem?_cons_zero]
      have g0 : Got w_9.drew w_9.drew [] [] := Got.start (Below.refl _ _)
      refine Effects.cons_ fun _ hQ1 => ?_
      go_wp2_with fail
      refine (rNumI_any _ _).mono ?_
      rintro e u1 ⟨v1, rfl, f1⟩
      have g1 := g0.step f1
      have hb1 := hb0.below f1.2 hb0.lt
      clear f1
      go_wp2_with fail
      refine hQ1 _ _ hb1 (Effects.cons_ fun _ hQ2 => ?_)
      clear hQ1 hb0 g0
      go_wp2_with fail
      refine (rNumU_any _ _ Q1.out).mono ?_
      rintro e u2 ⟨v2, rfl, f2⟩
      have g2 := g1.step f2
      have hb2 := hb1.below f2.2 hb1.lt
      clear f2
      go_wp2_with fail
      refine hQ2 _ _ hb2 (Effects.cons_ fun _ hQ3 => ?_)
      clear hQ2 hb1 g1
      go_wp2_with fail
      refine (rNumU_any _ _ Q2.out).mono ?_
      rintro e u3 ⟨v3, rfl, f3⟩
      have g3 := g2.step f3
      have hb3 := hb2.below f3.2 hb2.lt
      clear f3
      go_wp2_with fail
      refine hQ3 _ _ hb3 (Effects.cons_ fun _ hQ4 => ?_)
      clear hQ3 hb2 g2
      go_wp2_with fail
      refine (rNumU_any _ _ Q3.out).mono ?_
      rintro e u4 ⟨v4, rfl, f4⟩
      have g4 := g3.step f4
      have hb4 := hb3.below f4.2 hb3.lt
      clear f4
      go_wp2_with fail
      refine hQ4 _ _ hb4 (Effects.cons_ fun _ hQ5 => ?_)
      clear hQ4 hb3 g3
      go_wp2_with fail
      refine (rNumU_any _ _ Q4.out).mono ?_
      rintro e u5 ⟨v5, rfl, f5⟩
      have g5 := g4.step f5
      have hb5 := hb4.below f5.2 hb4.lt
      clear f5
      go_wp2_with fail
      refine hQ5 _ _ hb5 (Effects.cons_ fun _ hQ6 => ?_)
      clear hQ5 hb4 g4
      go_wp2_with fail
      refine (rNumI_any _ _).mono ?_
      rintro e u6 ⟨v6, rfl, f6⟩
      have g6 := g5.step f6
      have hb6 := hb5.below f6.2 hb5.lt
      clear f6
      go_wp2_with fail
      refine hQ6 _ _ hb6 (Effects.cons_ fun _ hQ7 => ?_)
      clear hQ6 hb5 g5
      go_wp2_with fail
      refine (rNumI_any _ _).mono ?_
      rintro e u7 ⟨v7, rfl, f7⟩
      have g7 := g6.step f7
      have hb7 := hb6.below f7.2 hb6.lt
      clear f7
      go_wp2_with fail
      refine hQ7 _ _ hb7 (Effects.cons_ fun _ hQ8 => ?_)
      clear hQ7 hb6 g6
      have g8 := g7.old D7.out
      clear g7
      go_wp2_with fail
      refine (rNumI_any _ _).mono ?_
      rintro e u8 ⟨v9, rfl, f8⟩
      have g9 := g8.step f8
      have hb8 := hb7.below f8.2 hb7.lt
      clear f8
      go_wp2_with fail
      refine hQ8 _ _ hb8 (Effects.cons_ fun _ hQ9 => ?_)
      clear hQ8 hb7 g8
      go_wp2_with fail
      refine (rJoin_any _ (V9.out.drew_.below g9.1) HEK9.out (fun b hb => ltle hb g9.1.size)).mono ?_
      rintro e u9 ⟨v10, rfl, f9⟩
      rw [HRm9.out] at f9
      have f9 : Fresh _ _ _ ((Sh.list tFact).enc x9) := f9
      have g10 := g9.step f9
      have hb9 := hb8.below f9.2 hb8.lt
      clear f9
      go_wp2_with fail
      refine hQ9 _ _ hb9 (Effects.nil_ fun _ hQ10 => ?_)
      clear hQ9 hb8 g9
      have hcs : ∀ v ∈ [v1, v2, v3, v4, v5, v6, v7, (.slice (some ⟨w.heap.size, 7, none⟩) 32 32), v9, v10], v.cells = #[v] := fun v hv => by
        obtain ⟨i, hi, rfl⟩ := List.getElem_of_mem hv
        obtain ⟨y, _, hr⟩ := g10.2.get i hi
        obtain ⟨A, c, e⟩ := hr.form
        have e' : [v1, v2, v3, v4, v5, v6, v7, (.slice (some ⟨w.heap.size, 7, none⟩) 32 32), v9, v10][i] = .slice A y.length c := e
        rw [e']; rfl
      refine wpList_rows rfl 10 _ rfl [v1, v2, v3, v4, v5, v6, v7, (.slice (some ⟨w.heap.size, 7, none⟩) 32 32), v9, v10] rfl (by decide) (by decide) hcs (by simp [Act.eval]) ?_
      have hr : Bsr (u9.alloc (.cells [v1, v2, v3, v4, v5, v6, v7, (.slice (some ⟨w.heap.size, 7, none⟩) 32 32), v9, v10].toArray 77)) (fun b => b < u9.heap.size + 1) (.slice (some ⟨u9.heap.size, 0, none⟩) 10 10) [numB x0, numB x1, numB x2, numB x3, numB x4, numB x5, numB x6, x7, numB x8, (Sh.list tFact).enc x9] := g10.row (by simp [maxLen]) 77
      have hj := rJoin_any _ hr (by have := HLL.out; omega) (fun b hb => by simpa using hb)
      have hbb : Below w.heap.size w (u9.alloc (.cells [v1, v2, v3, v4, v5, v6, v7, (.slice (some ⟨w.heap.size, 7, none⟩) 32 32), v9, v10].toArray 77)) := (hbw.trans (g10.1.mono hbw.size)).alloc (hbw.trans (g10.1.mono hbw.size)).size _
      have HJ := Lib.hid hj
      have HBB := Lib.hid hbb
      clear hj hbb hr g10 hcs
      go_wp2_with fail
      refine HJ.out.mono ?_
      rintro e uz ⟨vz, rfl, fz⟩
      go_wp2_with fail
      go_ret
      exact ⟨vz, rfl, fz.1.sub fun b hb _ => ⟨Nat.le_trans HBB.out.size hb.1, hb.2⟩, HBB.out.trans (fz.2.mono HBB.out.size)⟩
end
section
open Go.RowKit Go.Maps
attribute [-simp] Tryz.isAgg34 Tryz.typeInfo34 Tryz.isAgg40 Tryz.typeInfo40 Tryz.isAgg37 Tryz.typeInfo37 Tryz.isAgg57 Tryz.typeInfo57
set_option maxRecDepth 100000 in
theorem rspends_any (w : World) {S : Nat → Prop} {x : TxE} {cs : List Value} (h : tTx.rep w S x cs) :
    Calls Tryz.prog 25 #[.agg cs.toArray] w fun e w' => e = .returned (.bool (spendsX x)) ∧ Below w.heap.size w w' := by
  obtain ⟨h0, _, _, _⟩ := tx_cells h
  have hal := (Below.refl w.heap.size w).alloc (Nat.le_refl _) (.cells cs.toArray 40)
  have hc := (Blk.new w 40 cs.toArray).cell 0
  rw [getElem?_toArray, h0] at hc
  obtain ⟨k, hk⟩ : ∃ k, k = kindX x := ⟨_, rfl⟩
  have hs : spendsX x = (decide (k = 1) || decide (k = 2)) := by rw [hk]; rfl
  rw [hs]
  rw [← hk] at hc
  have HAL := Lib.hid hal
  clear hal h h0 hk hs
  by_cases h1 : k = 1
  · subst h1
    go_enter Tryz.func25, Tryz.ntmps25
    go_wp2_with fail
    go_ret
    exact ⟨by simp, HAL.out⟩
  · go_enter Tryz.func25, Tryz.ntmps25
    go_wp2_with fail
    go_ret
    refine ⟨?_, HAL.out⟩
    simp [h1]
    by_cases h2 : k = 2 <;> simp [h1, h2]
def sameX (x y : TxE) : Bool := decide (tTx.enc x = tTx.enc y)
set_option maxHeartbeats 8000000 in
set_option maxRecDepth 100000 in
theorem rsame_any (w : World) {S T : Nat → Prop} {x y : TxE} {cs ds : List Value} (h : tTx.rep w S x cs) (h' : tTx.rep w T y ds) (hl : (tTx.enc x).length ≤ 1099511627776) (hl' : (tTx.enc y).length ≤ 1099511627776) :
    Calls Tryz.prog 26 #[.agg cs.toArray, .agg ds.toArray] w fun e w' => e = .returned (.bool (sameX x y)) ∧ Below w.heap.size w w' := by
  have hal := ((Below.refl w.heap.size w).alloc (Nat.le_refl _) (.cells cs.toArray 40)).alloc (by simp) (.cells ds.toArray 40)
  have hx := (Blk.new w 40 cs.toArray).alloc (.cells ds.toArray 40)
  have hy := Blk.new (w.alloc (.cells cs.toArray 40)) 40 ds.toArray
  rw [show (w.alloc (.cells cs.toArray 40)).heap.size = w.heap.size + 1 by simp] at hy
  obtain ⟨w1, hw1⟩ : ∃ w1, w1 = (w.alloc (.cells cs.toArray 40)).alloc (.cells ds.toArray 40) := ⟨_, rfl⟩
  rw [← hw1] at hal hx hy
  have HI := Lib.hid (tx_size (tx_cells h).2.2.2)
  have HJ := Lib.hid (tx_size (tx_cells h').2.2.2)
  have HR := Lib.hid (Sh.rep_below h hal)
  have HR' := Lib.hid (Sh.rep_below h' hal)
  have HL := Lib.hid hl
  have HL' := Lib.hid hl'
  have HAL := Lib.hid hal.drew
  have HW1 := Lib.hid hw1
  have hSS : Blk w1.drew w.heap.size 40 cs.toArray ∧ Blk w1.drew (w.heap.size + 1) 40 ds.toArray := ⟨hx.drew, hy.drew⟩
  clear h h' hl hl' hal hx hy hw1
  go_enter Tryz.func26, Tryz.ntmps26
  go_wp2_with fail
  rw [← HW1.out]
  refine wp_region_segsV [([0, 3], [1]), ([2], [4]), ([5, 6], [7])] (by kernel_rfl) (by kernel_rfl) (by kernel_rfl) (by kernel_rfl)
    (SegV.mk (fun w' => Blk w' w.heap.size 40 cs.toArray ∧ Blk w' (w.heap.size + 1) 40 ds.toArray) (fun _ _ => trivial) hSS ?_)
  (refine HoistK.load (by rfl) (by kernel_rfl) 40 _ rfl w.heap.size 0 rfl cs _ (fun w' hw => hw.1.range) Tryz.underlying40 rfl HI.out ?_; simp only [Act.put, setIfInBounds_toArray, getElem_toArray, getElem_cons_zero, set_cons_succ, set_cons_zero])
  (refine HoistK.load (by rfl) (by kernel_rfl) 40 _ rfl (w.heap.size + 1) 0 rfl ds _ (fun w' hw => hw.2.range) Tryz.underlying40 rfl HJ.out ?_; simp only [Act.put, setIfInBounds_toArray, getElem_toArray, getElem_cons_succ, getElem_cons_zero, set_cons_succ, set_cons_zero])
  refine HoistK.nil_ ?_
  simp only [opsAt, filterMap_cons, filterMap_nil, getElem?_toArray, getElem?_cons_succ, getElem?_cons_zero]
  refine EffS.cons_ fun _ hQ => ?_
  go_wp2_with fail
  refine (rTx_any w1.drew (Sh.rep_below HR.out ((Below.refl w1.heap.size w1).drew)) HL.out).mono ?_
  rintro e w2 ⟨v2, rfl, f2⟩
  obtain ⟨b1, hb1⟩ : ∃ b, b = tTx.enc x := ⟨_, rfl⟩
  rw [← hb1] at f2
  have HE1 := Lib.hid hb1
  have hs2 := run_str f2.1 Tryz.underlying77 Tryz.underlying5 Tryz.underlying9
  have hS2 : Blk w2 w.heap.size 40 cs.toArray ∧ Blk w2 (w.heap.size + 1) 40 ds.toArray := ⟨hSS.1.below f2.2 hSS.1.lt, hSS.2.below f2.2 hSS.2.lt⟩
  have hB2 := HAL.out.trans (f2.2.mono HAL.out.size)
  have hR2 := Sh.rep_below (Sh.rep_below HR'.out ((Below.refl w1.heap.size w1).drew)) f2.2
  have HF2 := Lib.hid f2.1
  clear hb1 f2 hSS
  go_wp2_with fail
  refine hQ _ _ hS2 (EffS.nil_ (SegV.mk (fun w' => Blk w' w.heap.size 40 cs.toArray ∧ Blk w' (w.heap.size + 1) 40 ds.toArray ∧ (convert 77 9 v2).run Tryz.prog w' = .ok (.string (str b1)) w') (fun _ h => ⟨h.1, h.2.1⟩) ⟨hS2.1, hS2.2, hs2⟩ ?_))
  clear hs2
  (refine HoistK.yes (by rfl) (by kernel_rfl) ⟨?_, fun w' hSw => ?_, ?_⟩; rotate_left; (· have hcv := hSw.2.2; go_simp; try with_reducible rfl); simp only [Act.put, setIfInBounds_toArray, getElem_toArray, getElem_cons_succ, getElem_cons_zero, set_cons_succ, set_cons_zero])
  refine HoistK.nil_ ?_
  simp only [opsAt, filterMap_cons, filterMap_nil, getElem?_toArray, getElem?_cons_succ, getElem?_cons_zero]
  refine EffS.cons_ fun _ hQ => ?_
  go_wp2_with fail
  refine (rTx_any w2 hR2 HL'.out).mono ?_
  rintro e w3 ⟨v3, rfl, f3⟩
  obtain ⟨b2, hb2⟩ : ∃ b, b = tTx.enc y := ⟨_, rfl⟩
  rw [← hb2] at f3
  have HE2 := Lib.hid hb2
  have hs23 := run_str (HF2.out.below f3.2) Tryz.underlying77 Tryz.underlying5 Tryz.underlying9
  have hs3 := run_str f3.1 Tryz.underlying77 Tryz.underlying5 Tryz.underlying9
  have hS3 : Blk w3 w.heap.size 40 cs.toArray ∧ Blk w3 (w.heap.size + 1) 40 ds.toArray := ⟨hS2.1.below f3.2 hS2.1.lt, hS2.2.below f3.2 hS2.2.lt⟩
  have HB3 := Lib.hid (hB2.trans (f3.2.mono hB2.size))
  clear hb2 f3 hS2 hB2 hR2
  go_wp2_with fail
  have hSX := And.intro hS3.1 (And.intro hS3.2 (And.intro hs23 hs3))
  refine hQ _ _ ⟨hS3.1, hS3.2, hs23⟩ (EffS.nil_ (SegV.mk (fun w' => Blk w' w.heap.size 40 cs.toArray ∧ Blk w' (w.heap.size + 1) 40 ds.toArray ∧ (convert 77 9 v2).run Tryz.prog w' = .ok (.string (str b1)) w' ∧ (convert 77 9 v3).run Tryz.prog w' = .ok (.string (str b2)) w') (fun _ h => ⟨h.1, h.2.1, h.2.2.1⟩) hSX ?_))
  clear hs3 hs23
  have HQ := Lib.hid (show sameX x y = decide (b1 = b2) by rw [HE1.out, HE2.out]; rfl)
  obtain ⟨q, hq⟩ : ∃ q, q = decide (b1 = b2) := ⟨_, rfl⟩
  have hcmp : ((str b1).toList == (str b2).toList) = q := by rw [hq, str_tl, str_tl]; by_cases e : b1 = b2 <;> simp [e]
  rw [← hq] at HQ
  clear hq
  (refine HoistK.yes (by rfl) (by kernel_rfl) ⟨?_, fun w' hSw => ?_, ?_⟩; rotate_left; (· have hcv := hSw.2.2.2; go_simp; try with_reducible rfl); simp only [Act.put, setIfInBounds_toArray, getElem_toArray, getElem_cons_succ, getElem_cons_zero, set_cons_succ, set_cons_zero])
  (refine HoistK.yes (by rfl) (by kernel_rfl) ⟨?_, fun w' hSw => ?_, ?_⟩; rotate_left; (· go_simp; try with_reducible rfl); simp only [Act.put, setIfInBounds_toArray, getElem_toArray, getElem_cons_succ, getElem_cons_zero, set_cons_succ, set_cons_zero])
  refine HoistK.nil_ ?_
  simp only [opsAt, filterMap_cons, filterMap_nil, getElem?_toArray, getElem?_cons_succ, getElem?_cons_zero]
  refine EffS.cons_ fun _ hQ => ?_
  go_wp2_with fail
  refine hQ _ _ hSX (EffS.nil_ fun _ hQ => ?_)
  go_wp2_with fail
  go_ret
  exact ⟨by rw [HQ.out]; rfl, HB3.out⟩
def inX (X : List TxE) (x : TxE) : Bool := X.any fun y => sameX y x
theorem inX_snoc (X : List TxE) (x : TxE) {k : Nat} (hk : k < X.length) : inX (X.take (k + 1)) x = (inX (X.take k) x || sameX X[k] x) := by
  unfold inX
  rw [List.take_succ_eq_append_getElem hk, List.any_append]
  simp
set_option maxHeartbeats 8000000 in
set_option maxRecDepth 100000 in
theorem rin_any (w : World) {S T : Nat → Prop} {X : List TxE} {v : Value} {x : TxE} {ds : List Value} (h : (Sh.list tTx).rep w S X [v]) (h' : tTx.rep w T x ds) (hl : ∀ y ∈ X, (tTx.enc y).length ≤ 1099511627776) (hl' : (tTx.enc x).length ≤ 1099511627776) :
    Calls Tryz.prog 24 #[v, .agg ds.toArray] w fun e w' => e = .returned (.bool (inX X x)) ∧ Below w.heap.size w w' := by
  obtain ⟨A, cap, rfl, hlen, _⟩ := list_at h
  have hal := (Below.refl w.heap.size w).alloc (Nat.le_refl _) (.cells ds.toArray 40)
  have hx := Blk.new w 40 ds.toArray
  obtain ⟨w1, hw1⟩ : ∃ w1, w1 = w.alloc (.cells ds.toArray 40) := ⟨_, rfl⟩
  rw [← hw1] at hal hx
  obtain ⟨n, hn⟩ : ∃ n, n = X.length := ⟨_, rfl⟩
  have e0 : (Value.slice A X.length cap) = .slice A n cap := by rw [hn]
  rw [e0] at h ⊢
  have hn63 : n ≤ 9223372036854775807 := by omega
  have HI := Lib.hid (tx_size (tx_cells h').2.2.2)
  have HR := Lib.hid (Sh.rep_below h hal)
  have HR' := Lib.hid (Sh.rep_below h' hal)
  have HL := Lib.hid hl
  have HL' := Lib.hid hl'
  have HAL := Lib.hid hal
  have HW1 := Lib.hid hw1
  have HX := Lib.hid hx
  have HN := Lib.hid hn
  clear h h' hl hl' hal hx hw1 hn hlen e0
  go_enter Tryz.func24, Tryz.ntmps24
  go_wp2_with fail
  rw [← HW1.out]
  go_loopw [5] (fun i wr => ∃ k : Nat, k ≤ n ∧ i = .int .i64 k ∧ Hid (Below w1.heap.size w1 wr) ∧ Hid (inX (X.take k) x = false)) (fun i _ => n - (intOf i).toNat)
  case atStart => exact ⟨0, Nat.zero_le _, rfl, Lib.hid (Below.refl _ _), Lib.hid rfl⟩
  case round =>
    obtain ⟨k, hk, rfl, hb, hin⟩ := hrel
    by_cases hlt : k < n
    · have hkX : k < X.length := by rw [← HN.out]; exact hlt
      obtain ⟨_, _, e, _, hat⟩ := list_at HR.out
      injection e with e1 e2 e3
      subst e1; subst e3
      clear e2
      obtain ⟨b, off, C, rfl, hr, hrep, hCl, _⟩ := hat k hkX
      have hCl : C.length = 41 := hCl
      have hyl := HL.out _ (List.getElem_mem hkX)
      have HNX := Lib.hid (inX_snoc X x hkX)
      obtain ⟨t, ht⟩ : ∃ t, t = X[k] := ⟨_, rfl⟩
      rw [← ht] at hrep hyl HNX
      have hr : w1.rangeAt b (off + k * 41) C := hr
      have HJ := Lib.hid (tx_size hCl)
      have hbd := hb.out.trans (((Below.refl wr.heap.size wr).drew).mono hb.out.size)
      have hSS : Blk wr.drew w.heap.size 40 ds.toArray ∧ wr.drew.rangeAt b (off + k * 41) C := ⟨blk_low HX.out hbd, range_low hr hbd⟩
      have HSM := Lib.hid (rsame_any wr.drew (Sh.rep_below hrep hbd) (Sh.rep_below HR'.out hbd) hyl HL'.out)
      have HBD := Lib.hid hbd
      clear hat hr hrep hCl hyl ht hkX hbd hb
      go_wp2_with fail
      refine wp_region_segsV [([0, 1, 2, 3, 4], [5])] (by kernel_rfl) (by kernel_rfl) (by kernel_rfl) (by kernel_rfl)
        (SegV.mk (fun w' => Blk w' w.heap.size 40 ds.toArray ∧ w'.rangeAt b (off + k * 41) C) (fun _ _ => trivial) hSS ?_)
      (refine HoistK.yes (by rfl) (by kernel_rfl) ⟨?_, fun w' hSw => ?_, ?_⟩; rotate_left; (· go_simp; try with_reducible rfl); simp only [Act.put, setIfInBounds_toArray, getElem_toArray, getElem_cons_zero, set_cons_succ, set_cons_zero])
      iterate 2 (refine HoistK.yes (by rfl) (by kernel_rfl) ⟨?_, fun w' hSw => ?_, ?_⟩; rotate_left; (· go_simp; try with_reducible rfl); simp only [Act.put, setIfInBounds_toArray, getElem_toArray, getElem_cons_succ, getElem_cons_zero, set_cons_succ, set_cons_zero])
      (refine HoistK.load (by rfl) (by kernel_rfl) 40 _ rfl b (off + k * 41) rfl C _ (fun w' hw => hw.2) Tryz.underlying40 rfl HJ.out ?_; simp only [Act.put, setIfInBounds_toArray, getElem_toArray, getElem_cons_succ, getElem_cons_zero, set_cons_succ, set_cons_zero])
      (refine HoistK.load (by rfl) (by kernel_rfl) 40 _ rfl w.heap.size 0 rfl ds _ (fun w' hw => hw.1.range) Tryz.underlying40 rfl HI.out ?_; simp only [Act.put, setIfInBounds_toArray, getElem_toArray, getElem_cons_succ, getElem_cons_zero, set_cons_succ, set_cons_zero])
      refine HoistK.nil_ ?_
      simp only [opsAt, filterMap_cons, filterMap_nil, getElem?_toArray, getElem?_cons_succ, getElem?_cons_zero]
      refine EffS.cons_ fun _ hQ => ?_
      go_wp2_with fail
      refine HSM.out.mono ?_
      rintro e w2 ⟨rfl, hb2⟩
      have HB2 := Lib.hid (HBD.out.trans (hb2.mono HBD.out.size))
      have hS2 : Blk w2 w.heap.size 40 ds.toArray ∧ w2.rangeAt b (off + k * 41) C := ⟨hSS.1.below hb2 hSS.1.lt, range_low hSS.2 hb2⟩
      obtain ⟨q, hq⟩ : ∃ q, q = sameX t x := ⟨_, rfl⟩
      rw [← hq]
      have HQ := Lib.hid hq
      clear hq hb2 hSS HSM
      go_wp2_with fail
      refine hQ _ _ hS2 (EffS.nil_ fun _ hQ => ?_)
      cases q
      · have HN2 := Lib.hid (show inX (X.take (k + 1)) x = false by rw [HNX.out, hin.out, ← HQ.out]; rfl)
        clear hin
        go_wp2_with fail
        exact ⟨⟨k + 1, by omega, by push_cast; rfl, HB2, HN2⟩, by simp only [intOf]; omega⟩
      · have HN2 := Lib.hid (show inX X x = true by
          have h := HNX.out
          rw [← HQ.out, Bool.or_true] at h
          unfold inX at h ⊢
          obtain ⟨y, hy, hs⟩ := List.any_eq_true.1 h
          exact List.any_eq_true.2 ⟨y, List.mem_of_mem_take hy, hs⟩)
        clear hin
        go_wp2_with fail
        go_ret
        exact ⟨by rw [HN2.out]; rfl, HAL.out.trans (HB2.out.mono HAL.out.size)⟩
    · have hk' : k = n := by omega
      subst hk'
      have HN2 := Lib.hid (show inX X x = false by have h := hin.out; rwa [HN.out, List.take_length] at h)
      have HB2 := Lib.hid (HAL.out.trans (hb.out.mono HAL.out.size))
      clear hin hb
      go_wp2_with fail
      go_ret
      exact ⟨by rw [HN2.out]; rfl, HB2.out⟩
def fillX (la : List (Int × Int × Int × Unit)) (mm : Nat) (l : List TxE) : List TxE := l.foldl (addX la mm) []
theorem fillX_snoc (la : List (Int × Int × Int × Unit)) (mm : Nat) (l : List TxE) {k : Nat} (hk : k < l.length) : fillX la mm (l.take (k + 1)) = addX la mm (fillX la mm (l.take k)) l[k] := by
  unfold fillX
  rw [List.take_succ_eq_append_getElem hk, List.foldl_append]
  rfl
set_option maxHeartbeats 8000000 in
set_option maxRecDepth 100000 in
theorem fill_any (w : World) {S T : Nat → Prop} {la : List (Int × Int × Int × Unit)} {ss : List Value} {most : Int} {y : Value} {l : List TxE} (hs : StA w S la ss) (hy : (Sh.list tTx).rep w T l [y]) (hyl : ∀ x ∈ l, (tTx.enc x).length ≤ 1099511627776) :
    Calls Tryz.prog 22 #[.agg ss.toArray, .int .i64 most, y] w fun e w' => ∃ g v, e = .returned (.pointer (some ⟨g, 0, none⟩)) ∧ PoolB w w' g v (min (max most 0) 32).toNat (fillX la (min (max most 0) 32).toNat l) := by
  have hal := (Below.refl w.heap.size w).alloc (Nat.le_refl _) (.cells ss.toArray 34)
  have hbx := Blk.new w 34 ss.toArray
  obtain ⟨w2, hw2⟩ : ∃ w2, w2 = w.alloc (.cells ss.toArray 34) := ⟨_, rfl⟩
  rw [← hw2] at hal hbx
  obtain ⟨A, cap, rfl, hlen, _⟩ := list_at hy
  obtain ⟨nl, hnl⟩ : ∃ n, n = l.length := ⟨_, rfl⟩
  have e0 : (Value.slice A l.length cap) = .slice A nl cap := by rw [hnl]
  rw [e0] at hy ⊢
  have HST := Lib.hid (st_of hs)
  have HS2 := Lib.hid (hs.below hal)
  have HY := Lib.hid (Sh.rep_below hy hal)
  have HTL := Lib.hid hyl
  have HB2 := Lib.hid hal
  have HX2 := Lib.hid hbx
  have HN := Lib.hid hnl
  have HW2 := Lib.hid hw2
  have hnl63 : nl ≤ 9223372036854775807 := by omega
  clear hal hbx hs hy hyl hlen e0 hnl hw2
  obtain ⟨mm, hmm⟩ : ∃ mm, mm = (min (max most 0) 32).toNat := ⟨_, rfl⟩
  rw [← hmm]
  have HMM := Lib.hid hmm
  clear hmm
  go_enter Tryz.func22, Tryz.ntmps22
  go_wp2_with fail
  rw [← HW2.out]
  refine (newB_any w2 most).mono ?_
  rintro e w3 ⟨rfl, hp3⟩
  rw [← HMM.out] at hp3
  obtain ⟨gP, hgP⟩ : ∃ gP, gP = w2.heap.size := ⟨_, rfl⟩
  rw [← hgP] at hp3 ⊢
  have HP3 := Lib.hid hp3
  clear hp3 hgP
  go_wp2_with fail
  go_loopw [13] (fun i wr => ∃ k : Nat, k ≤ nl ∧ i = .int .i64 k ∧ Hid (∃ v, PoolB w2 wr gP v mm (fillX la mm (l.take k)))) (fun i _ => nl - (intOf i).toNat)
  case atStart => exact ⟨0, Nat.zero_le _, rfl, Lib.hid ⟨_, HP3.out⟩⟩
  case round =>
    obtain ⟨k, hk, rfl, hP⟩ := hrel
    obtain ⟨v, hpb⟩ := hP.out
    by_cases hlt : k < nl
    · have hkl : k < l.length := by rw [← HN.out]; exact hlt
      obtain ⟨_, _, e, _, hat⟩ := list_at HY.out
      injection e with e1 e2 e3
      subst e1; subst e3
      clear e2
      obtain ⟨b, off, C, rfl, hr, hrep, hCl, _⟩ := hat k hkl
      have hCl : C.length = 41 := hCl
      have htl := HTL.out _ (List.getElem_mem hkl)
      have HFX := Lib.hid (fillX_snoc la mm l hkl)
      obtain ⟨t, ht⟩ : ∃ t, t = l[k] := ⟨_, rfl⟩
      rw [← ht] at hrep htl HFX
      have hr : w2.rangeAt b (off + k * 41) C := hr
      have HJ := Lib.hid (tx_size hCl)
      have HREP := Lib.hid hrep
      have HTLX := Lib.hid htl
      have HSW := Lib.hid (show ∀ w', Below w2.heap.size w2 w' → Blk w' w.heap.size 34 ss.toArray ∧ w'.rangeAt b (off + k * 41) C from fun w' h => ⟨blk_low HX2.out h, range_low hr h⟩)
      have hpd := hpb.below ((Below.refl wr.heap.size wr).drew)
      have hSS := HSW.out _ hpd.2.1
      clear hat hr hrep hCl htl ht hkl hpb hP
      go_wp2_with fail
      refine wp_region_segsV [([0, 1, 2, 3, 4, 5], [6])] (by kernel_rfl) (by kernel_rfl) (by kernel_rfl) (by kernel_rfl)
        (SegV.mk (fun w' => Blk w' w.heap.size 34 ss.toArray ∧ w'.rangeAt b (off + k * 41) C) (fun _ _ => trivial) hSS ?_)
      (refine HoistK.yes (by rfl) (by kernel_rfl) ⟨?_, fun w' hSw => ?_, ?_⟩; rotate_left; (· go_simp; try with_reducible rfl); simp only [Act.put, setIfInBounds_toArray, getElem_toArray, getElem_cons_zero, set_cons_succ, set_cons_zero])
      (refine HoistK.load (by rfl) (by kernel_rfl) 34 _ rfl w.heap.size 0 rfl ss _ (fun w' hw => hw.1.range) Tryz.underlying34 rfl HST.out ?_; simp only [Act.put, setIfInBounds_toArray, getElem_toArray, getElem_cons_succ, getElem_cons_zero, set_cons_succ, set_cons_zero])
      iterate 3 (refine HoistK.yes (by rfl) (by kernel_rfl) ⟨?_, fun w' hSw => ?_, ?_⟩; rotate_left; (· go_simp; try with_reducible rfl); simp only [Act.put, setIfInBounds_toArray, getElem_toArray, getElem_cons_succ, getElem_cons_zero, set_cons_succ, set_cons_zero])
      (refine HoistK.load (by rfl) (by kernel_rfl) 40 _ rfl b (off + k * 41) rfl C _ (fun w' hw => hw.2) Tryz.underlying40 rfl HJ.out ?_; simp only [Act.put, setIfInBounds_toArray, getElem_toArray, getElem_cons_succ, getElem_cons_zero, set_cons_succ, set_cons_zero])
      refine HoistK.nil_ ?_
      simp only [opsAt, filterMap_cons, filterMap_nil, getElem?_toArray, getElem?_cons_succ, getElem?_cons_zero]
      refine EffS.cons_ fun _ hQ => ?_
      go_wp2_with fail
      refine (addB_any w2 wr.drew (HS2.out.below hpd.2.1) (Sh.rep_below HREP.out hpd.2.1) hpd HTLX.out).mono ?_
      rintro e w4 ⟨rfl, hb4, v4, hp4⟩
      have hS4 := HSW.out _ hp4.2.1
      have HP4 := Lib.hid (show ∃ v, PoolB w2 w4 gP v mm (fillX la mm (l.take (k + 1))) from ⟨v4, by rw [HFX.out]; exact hp4⟩)
      obtain ⟨r1, hr1⟩ : ∃ r, r = addE la mm (encsX (fillX la mm (l.take k))) t := ⟨_, rfl⟩
      rw [← hr1]
      clear hr1 hp4 hb4 hpd hSS
      go_wp2_with fail
      refine hQ _ _ hS4 (EffS.nil_ fun _ hQ => ?_)
      clear hS4
      go_wp2_with fail
      exact ⟨⟨k + 1, by omega, by push_cast; rfl, HP4⟩, by simp only [intOf]; omega⟩
    · have hk' : k = nl := by omega
      subst hk'
      have HF := Lib.hid (show ∃ v, PoolB w wr gP v mm (fillX la mm l) from ⟨v, by
        have h := hpb
        rw [HN.out, List.take_length] at h
        exact ⟨h.1, HB2.out.trans (h.2.1.mono HB2.out.size), Nat.le_trans HB2.out.size h.2.2.1, fun b hb => Nat.le_trans HB2.out.size (h.2.2.2 b hb)⟩⟩)
      clear hpb hP
      go_wp2_with fail
      go_ret
      obtain ⟨v, hv⟩ := HF.out
      exact ⟨gP, v, rfl, hv⟩
end
section
open Go.RowKit Go.Maps
theorem fill_nodup (la : List (Int × Int × Int × Unit)) (mm : Nat) (l : List TxE) : (encsX (fillX la mm l)).Nodup := by
  unfold fillX
  suffices h : ∀ (l X : List TxE), (encsX X).Nodup → (encsX (l.foldl (addX la mm) X)).Nodup from h l [] List.nodup_nil
  intro l
  induction l with
  | nil => exact fun X h => h
  | cons x l ih =>
    intro X h
    refine ih _ ?_
    unfold addX
    by_cases h0 : addE la mm (encsX X) x = 0
    · rw [if_pos h0]
      have : encsX (X ++ [x]) = encsX X ++ [tTx.enc x] := List.map_append
      rw [this, List.nodup_append]
      refine ⟨h, by simp, fun a ha b hb => ?_⟩
      rw [List.mem_singleton] at hb
      subst hb
      rintro rfl
      exact (addE_ok h0).2.2.1 ha
    · rw [if_neg h0]; exact h
theorem enc_inj {X : List TxE} (hw : wellX X) {x y : TxE} (hx : x ∈ X) (hy : y ∈ X) (h : tTx.enc x = tTx.enc y) : x = y := by
  have h1 := (hw x hx).1
  rw [h, (hw y hy).1] at h1
  exact (Option.some.inj h1).symm
theorem inX_iff (X : List TxE) (x : TxE) : inX X x = decide (tTx.enc x ∈ encsX X) := by
  unfold inX encsX
  rw [Bool.eq_iff_iff, List.any_eq_true, decide_eq_true_iff, List.mem_map]
  constructor
  · rintro ⟨y, hy, h⟩; exact ⟨y, hy, of_decide_eq_true h⟩
  · rintro ⟨y, hy, h⟩; exact ⟨y, hy, decide_eq_true h⟩
theorem inX_mem {X : List TxE} {x : TxE} (h : x ∈ X) : inX X x = true := by
  rw [inX_iff, decide_eq_true_iff]; exact List.mem_map_of_mem h
theorem sameX_self (x : TxE) : sameX x x = true := decide_eq_true rfl
abbrev restX (la : List (Int × Int × Int × Unit)) (n : Nat) (X : List TxE) : List TxE := restP spendsX fromX nonceX (baseX la) n X []
theorem next_perm (la : List (Int × Int × Int × Unit)) (n : Nat) (X : List TxE) : (nextX la n X ++ restX la n X).Perm X := nextP_perm n X []
theorem next_mem {la : List (Int × Int × Int × Unit)} {n : Nat} {X : List TxE} {x : TxE} (h : x ∈ nextX la n X) : x ∈ X := (next_perm la n X).mem_iff.1 (List.mem_append_left _ h)
theorem next_len (la : List (Int × Int × Int × Unit)) (n : Nat) (X : List TxE) : (nextX la n X).length ≤ n := by
  have := (nextP_len (sp := spendsX) (fr := fromX) (no := nonceX) (base := baseX la) n X []).2
  rw [List.length_nil, Nat.zero_add] at this
  exact this
theorem next_nodup {la : List (Int × Int × Int × Unit)} {n : Nat} {X : List TxE} (h : (encsX X).Nodup) : (encsX (nextX la n X)).Nodup := by
  have h1 : (encsX (nextX la n X ++ restX la n X)).Perm (encsX X) := (next_perm la n X).map _
  have h2 := h1.nodup_iff.2 h
  rw [show encsX (nextX la n X ++ restX la n X) = encsX (nextX la n X) ++ encsX (restX la n X) from List.map_append] at h2
  exact (List.nodup_append.1 h2).1
theorem notin_take {X : List TxE} (h : (encsX X).Nodup) {i : Nat} (hi : i < X.length) : inX (X.take i) X[i] = false := by
  rw [inX_iff, decide_eq_false_iff_not]
  intro hm
  unfold encsX at hm h
  rw [List.mem_map] at hm
  obtain ⟨y, hy, he⟩ := hm
  obtain ⟨j, hj, rfl⟩ := List.getElem_of_mem hy
  rw [List.length_take] at hj
  rw [List.getElem_take] at he
  have h1 := (List.nodup_iff_pairwise_ne.1 h)
  rw [List.pairwise_iff_getElem] at h1
  have := h1 j i (by rw [List.length_map]; omega) (by rw [List.length_map]; exact hi) (by omega)
  rw [List.getElem_map, List.getElem_map] at this
  exact this he
theorem next_rest {la : List (Int × Int × Int × Unit)} {n : Nat} {X : List TxE} {x : TxE} (hx : x ∈ X) (h : inX (nextX la n X) x = false) (hl : (nextX la n X).length < n) : fitsX la (nextX la n X) x = false := by
  have h1 : x ∈ nextX la n X ++ restX la n X := (next_perm la n X).mem_iff.2 hx
  rcases List.mem_append.1 h1 with h2 | h2
  · rw [inX_mem h2] at h; cases h
  · exact restP_done n X [] (by rw [List.length_nil, Nat.zero_add]; exact hl) x h2
theorem next_fits {la : List (Int × Int × Int × Unit)} {n : Nat} {X : List TxE} {i : Nat} (hi : i < (nextX la n X).length) : fitsX la ((nextX la n X).take i) (nextX la n X)[i] = true :=
  nextP_fits n X [] (fun i h => by cases h) i hi
theorem cntP_take (X : List TxE) (f : Int) {k : Nat} (hk : k < X.length) : cntP spendsX fromX (X.take (k + 1)) f = cntP spendsX fromX (X.take k) f + if spendsX X[k] && fromX X[k] == f then 1 else 0 := by
  rw [List.take_succ_eq_append_getElem hk, cntP_snoc]
def wantX (la : List (Int × Int × Int × Unit)) (out : List TxE) (f : Int) : Int := (baseX la f + (cntP spendsX fromX out f : Nat)) % 18446744073709551616
theorem want_nil {la : List (Int × Int × Int × Unit)} {f : Int} (h : 0 ≤ baseX la f ∧ baseX la f < 18446744073709551616) : wantX la [] f = baseX la f := by
  unfold wantX
  rw [show cntP spendsX fromX [] f = 0 from rfl]
  omega
theorem want_step (la : List (Int × Int × Int × Unit)) (X : List TxE) (f : Int) {k : Nat} (hk : k < X.length) : wantX la (X.take (k + 1)) f = if spendsX X[k] && fromX X[k] == f then (wantX la (X.take k) f + 1) % 18446744073709551616 else wantX la (X.take k) f := by
  unfold wantX
  rw [cntP_take X f hk]
  by_cases h : (spendsX X[k] && fromX X[k] == f) = true
  · rw [if_pos h, if_pos h]; push_cast; omega
  · rw [if_neg h, if_neg h]; push_cast; omega
theorem fits_want (la : List (Int × Int × Int × Unit)) (out : List TxE) (x : TxE) : fitsX la out x = (!spendsX x || nonceX x == wantX la out (fromX x)) := rfl
theorem base_range {w : World} {S : Nat → Prop} {x : StE} {ss : List Value} (h : tState.rep w S x ss) (f : Int) : 0 ≤ baseX (accX x) f ∧ baseX (accX x) f < 18446744073709551616 := by
  obtain ⟨c, vA, vL, vC, vR, vM, rfl, hA, _⟩ := st_parts h
  obtain ⟨_, _, _, _, hat⟩ := list_at hA
  have hr : ∀ a : Int × Int × Int × Unit, a ∈ accX x → 0 ≤ a.2.2.1 ∧ a.2.2.1 < 18446744073709551616 := fun a ha => by
    obtain ⟨k, hlt, rfl⟩ := List.getElem_of_mem ha
    obtain ⟨_, _, C, _, _, hrep, _⟩ := hat k hlt
    have hw := Sh.rep_wf tAccount _ _ hrep
    obtain ⟨_, _, h2, _⟩ := hw
    have h2 : (nk false).wrap ((accX x)[k] : Int × Int × Int × Unit).2.2.1 = ((accX x)[k] : Int × Int × Int × Unit).2.2.1 := h2
    rw [wrap_u] at h2
    omega
  unfold baseX acctP
  generalize bsP (List.map (fun x => x.1) (accX x)) f 0 (accX x).length = k
  cases hk : (accX x)[k]? with
  | none => exact ⟨Int.le_refl 0, by show (0 : Int) < _; omega⟩
  | some a =>
    have ha := hr a (List.mem_of_getElem? hk)
    by_cases e : a.1 = f
    · show 0 ≤ (if a.1 = f then a else (f, 0, 0, ())).2.2.1 ∧ (if a.1 = f then a else (f, 0, 0, ())).2.2.1 < 18446744073709551616
      rw [if_pos e]; exact ha
    · show 0 ≤ (if a.1 = f then a else (f, 0, 0, ())).2.2.1 ∧ (if a.1 = f then a else (f, 0, 0, ())).2.2.1 < 18446744073709551616
      rw [if_neg e]
      exact ⟨Int.le_refl 0, by show (0 : Int) < _; omega⟩
theorem stay_at {lb : List (Int × Int × Int × Unit)} {D : List (List UInt8)} {X : List TxE} {k : Nat} (hk : k < X.length) (hg : goneP lb D X[k] = false) : ∃ h : (stayX lb D (X.take k)).length < (stayX lb D X).length, (stayX lb D X)[(stayX lb D (X.take k)).length] = X[k] := by
  have h1 : stayX lb D X = stayX lb D (X.take (k + 1)) ++ stayX lb D (X.drop (k + 1)) := by
    unfold stayX
    rw [← List.filter_append, List.take_append_drop]
  have h2 := stayX_snoc lb D X hk
  rw [hg] at h2
  have h2 : stayX lb D (X.take (k + 1)) = stayX lb D (X.take k) ++ [X[k]] := h2
  have h3 : stayX lb D X = stayX lb D (X.take k) ++ (X[k] :: stayX lb D (X.drop (k + 1))) := by rw [h1, h2]; simp
  refine ⟨by rw [h3, List.length_append, List.length_cons]; omega, ?_⟩
  simp only [h3]
  rw [List.getElem_append_right (Nat.le_refl _)]
  simp
end
section
open Go.RowKit Go.Maps
theorem list_cap {w : World} {S : Nat → Prop} {X : List TxE} {A : Option Addr} {n cap : Nat} (h : (Sh.list tTx).rep w S X [.slice A n cap]) : n ≤ cap ∧ cap ≤ maxLen := by
  obtain ⟨v', css, e, h1, h2⟩ := h
  obtain rfl : Value.slice A n cap = v' := by simpa using e
  obtain ⟨hl, A', cap', e, hn, hc, hp⟩ := h1
  injection e with e1 e2 e3
  subst e3
  exact ⟨by omega, hc⟩
theorem list_one {w : World} {S : Nat → Prop} {X : List TxE} {A : Option Addr} {n cap : Nat} (h : (Sh.list tTx).rep w S X [.slice A n cap]) (hn : n = X.length) {k : Nat} (hk : k < n) :
    ∃ b off C, A = some ⟨b, off, none⟩ ∧ (∀ w', Below w.heap.size w w' → w'.rangeAt b (off + k * 41) C ∧ tTx.rep w' S (X[k]'(by omega)) C) ∧ C.length = 41 := by
  obtain ⟨A', cap', e, _, hat⟩ := list_at h
  injection e with e1 e2 e3
  subst e1; subst e3
  obtain ⟨b, off, C, rfl, hr, hrep, hCl, _⟩ := hat k (by omega)
  exact ⟨b, off, C, rfl, fun w' hb => ⟨range_low hr hb, Sh.rep_below hrep hb⟩, hCl⟩
end
end Go.Proofs.YtkclkmjlodomkaaGreatDoor
