/- Wal: WalOld's walk. -/
import Derived.Test.YtcgokafhkkmaoaaWkU
namespace Go.Proofs.Ytcgokafhkkmaoaa
open Go.RowKit Go.Maps

theorem LD.chg {w0 w w' : World} {g p : Nat} {S T M : Nat → Prop} {L : LogS} {D : DS} {B : Nat} (h : LD w0 w g p S T L D B) (hc : Chg M w w') (hd : ∀ b, Or2 S T b → ¬ M b) : LD w0 w' g p S T L D B :=
  ⟨h.log.chg hc fun b hb => hd b (.inl hb), h.dk.chg hc fun b hb => hd b (.inr hb), h.ap, h.new, Nat.le_trans h.size hc.size⟩
theorem LD.more {w0 w : World} {g p : Nat} {S T : Nat → Prop} {L : LogS} {D : DS} {B C : Nat} (h : LD w0 w g p S T L D B) (hC : B ≤ C) : LD w0 w g p S T L D C := ⟨h.log, h.dk.more hC, h.ap, h.new, h.size⟩

theorem Bsr.len {w : World} {S : Nat → Prop} {v : Value} {rows : List (List UInt8)} (h : Bsr w S v rows) : rows.length ≤ 9223372036854775807 := by
  obtain ⟨_, ⟨_, _, _, _, h1, h2, _⟩, _⟩ := h
  simp only [maxLen] at h2
  omega
theorem Bss.mv {w w' : World} {P P' Q X : Nat → Prop} {v : Value} {rows : List (List UInt8)} (h : Bss w P Q v rows) (hP' : ∀ k, P k → k < w.heap.size → P' k) (hc : Chg X w w') (hP : ∀ k, P k → ¬ X k) (hQ : ∀ k, Q k → ¬ X k) : Bss w' P' Q v rows := by
  obtain ⟨vs, ho, hS, hr⟩ := h
  exact ⟨vs, own_keep ho fun k hk => hc.block k (own_lt ho hk) (hP k (hS k hk)), fun k hk => hP' k (hS k hk) (own_lt ho hk), fun i x u h1 h2 => (hr i x u h1 h2).chg hc fun b hb => hQ b hb.1⟩
theorem enc_count : ∀ rows : List (List UInt8), 8 * rows.length ≤ (enc rows).length
  | [] => Nat.le_refl _
  | b :: r => by
    have := enc_count r
    rw [enc_cons, List.length_append, encR_length, List.length_cons]; omega
theorem noughts_u8 : cu8 noughts = u8s (List.replicate 256 0) := by rw [noughts_ints, cu8_ints]

set_option maxHeartbeats 2000000 in
set_option maxRecDepth 100000 in
theorem old_law (w : World) {vj va vb : Value} {junk : List UInt8} {a b : List (List UInt8)} (hj : Bs w (fun b => b < w.heap.size) vj junk) (ha : Bsr w (fun b => b < w.heap.size) va a) (hb : Bsr w (fun b => b < w.heap.size) vb b) :
    Calls Try.prog 4 #[vj, va, vb] w fun e w' => e = .returned (.bool true) ∧ Below w.heap.size w w' := by
  obtain ⟨Z, hZ⟩ : ∃ Z, Z = (cu8 noughts).toArray := ⟨_, rfl⟩
  have hz := (zero_of_info info_block).1
  have hzs := (zero_of_info info_block).2
  have hbu := fun w => run_build (P := Try.prog) w 37 #[] _ built_block
  rw [← hZ] at hz hbu
  have hsz : Z.size = 256 := by rw [hZ, List.size_toArray, cu8_length, noughts, List.length_replicate]
  have h1 : Z.all (·.oneCell') = true := by rw [hZ]; exact all_oneCell_toArray (cu8_one _)
  have hst := fun w => run_storeCells_new (P := Try.prog) w 37 Z Z (by rw [hsz]; exact hzs) rfl h1
  have HZ := Lib.hid hZ; clear hZ h1
  have hal := ha.len
  have hbl0 := hb.len
  have hjl := hj.2
  obtain ⟨Aj, cj, rfl⟩ := hj.form
  obtain ⟨A1, c1, rfl⟩ := ha.form
  obtain ⟨A2, c2, rfl⟩ := hb.form
  have HJ := Lib.hid hj
  have HA := Lib.hid ha
  have HB := Lib.hid hb
  clear ha hb hj
  have hso := Try.sizeOf37
  go_enter Try.func4, Try.ntmps4
  go_wp2_with fail
  refine (fixed_any w).mono ?_
  rintro e w1 ⟨rfl, hb1⟩
  go_wp2_with fail
  refine (new_dk 20 (by omega) (by omega) w w1 hb1.size).mono ?_
  rintro e w2 ⟨p, T0, rfl, hd0, hb12, hT0⟩
  have hb2 := hb1.trans (hb12.mono hb1.size)
  go_wp2_with fail
  go_loopw [8] (fun n wr => ∃ (k : Nat) (T : Nat → Prop) (D : DS), k ≤ 20 ∧ n = .int .i64 k ∧ Dk w wr p T D k ∧ D.Byt ∧ D.down = false ∧ D.fuse = -1 ∧ D.blocks = 20 ∧ D.room = 20 ∧ Below w.heap.size w wr) (fun n _ => 20 - (intOf n).toNat)
  case atStart => exact ⟨0, T0, DS.new 20, Nat.zero_le _, rfl, hd0, new_byt 20, rfl, rfl, rfl, rfl, hb2⟩
  case round =>
    clear hd0 hb12 hT0 hb2 hb1
    obtain ⟨k, T, D, hk, rfl, hd, hby, hdn, hfu, hbk, hrm, hbl⟩ := hrel
    have HDN := Lib.hid hdn; clear hdn
    have HFU := Lib.hid hfu; clear hfu
    have HBK := Lib.hid hbk; clear hbk
    have HRM := Lib.hid hrm; clear hrm
    by_cases hgo : k < 20 ∧ 0 < junk.length
    · as_aux_lemma =>
      obtain ⟨hk20, hjp⟩ := hgo
      have hk20I : (k : Int) < 20 := by omega
      have hjpI : (0 : Int) < (junk.length : Int) := by omega
      go_wp2_with fail
      clear hst hbu hso hz
      obtain ⟨wo, rfl⟩ : ∃ wo : World, wo = wr := ⟨_, rfl⟩
      have hX0 : Blk (wo.alloc (.cells Z 37)) wo.heap.size 37 (u8s (List.replicate 256 0)).toArray := by rw [← noughts_u8, ← HZ.out]; exact Blk.new wo _ _
      go_loopw [10] (fun i wi => ∃ (m : Nat) (bs : List UInt8), m ≤ 256 ∧ i = .int .i64 m ∧ bs.length = 256 ∧ Blk wi wo.heap.size 37 (u8s bs).toArray ∧ Below wo.heap.size wo wi) (fun i _ => 256 - (intOf i).toNat)
      case atStart => exact ⟨0, List.replicate 256 0, Nat.zero_le _, rfl, List.length_replicate, hX0, (Below.refl _ wo).alloc (Nat.le_refl _) _⟩
      case round =>
        clear hX0
        obtain ⟨m, bs, hm, rfl, hbsl, hX, hbi⟩ := hrel
        by_cases hm256 : m < 256
        · obtain ⟨q, hq⟩ : ∃ q, q = (256 * k + m) % junk.length := ⟨_, rfl⟩
          have hql : q < junk.length := by rw [hq]; exact Nat.mod_lt _ hjp
          have hqI : (256 * (k : Int) + (m : Int)) % (junk.length : Int) = (q : Int) := by rw [hq]; push_cast; rfl
          have HQ := Lib.hid hq; clear hq
          obtain ⟨y, hy⟩ : ∃ y, y = junk[q] := ⟨_, rfl⟩
          obtain ⟨bj, oj, rfl, hcj⟩ : ∃ bj oj, Aj = some ⟨bj, oj, none⟩ ∧ wr.cell? ⟨bj, oj + q, none⟩ = some (.int .u8 y.toNat) := by
            obtain ⟨⟨_, A', c', e, _, _, hp⟩, _⟩ := HJ.out.below (hbl.trans (hbi.mono hbl.size))
            injection e with e
            subst e
            obtain ⟨bj, oj, e, _, _, hc⟩ := hp hjp
            exact ⟨bj, oj, e, by rw [hy]; exact hc q _ (u8s_get junk q hql)⟩
          have HY := Lib.hid hy; clear hy
          have hmI : (m : Int) < 256 := by omega
          have hfX := hX.frozen m
          have hcX := hX.cell m
          rw [show (u8s bs).toArray[m]? = some (.int .u8 (bs[m]'(by omega)).toNat) by simp [u8s, hbsl, hm256]] at hcX
          generalize (bs[m]'(by omega)).toNat = oldb at hcX
          have HBSL := Lib.hid hbsl; clear hbsl
          have hqlI : (q : Int) < (junk.length : Int) := by omega
          go_wp2_with fail
          refine ⟨⟨m + 1, bs.set m y, by omega, by go_num, by rw [List.length_set, HBSL.out], ?_, hbi.setCell (p := ⟨wo.heap.size, m, none⟩) (Nat.le_refl _) _⟩, by simp only [intOf]; omega⟩
          have := hX.set_ m (.int .u8 y.toNat)
          simpa [u8s, List.map_set] using this
        · obtain rfl : m = 256 := by omega
          have hd2 := hd.below hbi
          have hbl2 := hbl.trans (hbi.mono hbl.size)
          have hinfo : (Try.prog.info? 37).map (·.size) = some (u8s bs).length := by rw [u8s_length, hbsl]; exact hzs
          have hwf : (Lit.int .i64 (k : Int)).wf = true := wf64 _ (by omega) (by omega)
          have hwr := write_dk hd2 hbl2.size hwf (l := ints bs) (by rw [ints_length, hbsl]) (by omega)
          rw [cu8_ints] at hwr
          have hD := D.write_go HDN.out (by rw [HFU.out]; omega) (n := (k : Int)) (by omega) (by rw [HBK.out]; omega) (by rw [HRM.out]; omega) (ints bs)
          rw [hD] at hwr
          have HWR := Lib.hid hwr
          have hby' : ({ D with fuse := tickF D.fuse, loose := D.loose ++ [((k : Int), ints bs)] } : DS).Byt := ⟨fun x hx => by
            rcases List.mem_append.1 hx with hx | hx
            · exact hby.loose x hx
            · rw [List.mem_singleton.1 hx]; exact ⟨bs, rfl⟩, hby.firm⟩
          have HINFO := Lib.hid hinfo
          clear hwr hD hwf hinfo hzs hbsl hd2
          go_wp2_with (refine wpList_load_blk rfl _ _ rfl hX rfl Try.underlying37 HINFO.out ?_)
          refine HWR.out.mono ?_
          rintro e w5 ⟨rfl, T5, hd5, hc5, hT5⟩
          have hb5 : Below w.heap.size w w5 := hbl2.trans (hc5.below hbl2.size fun b hb => hd.new b hb)
          clear HWR hd hX
          go_wp2_with fail
          refine ⟨⟨k + 1, T5, _, by omega, by go_num, hd5, hby', HDN.out, ?_, HBK.out, HRM.out, hb5⟩, by simp only [intOf]; omega⟩
          show tickF D.fuse = -1
          rw [HFU.out]; rfl
    · rcases (by omega : ¬ k < 20 ∨ (k < 20 ∧ junk.length = 0)) with hge | ⟨hk20, hj0⟩
      · have hgeI : ¬ (k : Int) < 20 := by omega
        as_aux_lemma =>
          have hdn := HDN.out
          obtain ⟨D1, hF1, hW1, _, hR1⟩ := formats (first := 2) (size := 16) HDN.out (by rw [HFU.out]; omega) hby hd.fine.ok (by rw [HBK.out]; simp [fitsB]) (by rw [HBK.out]; omega) (by rw [HRM.out]; omega)
          obtain ⟨L0, hL0⟩ : ∃ L0 : LogS, L0 = ⟨2, 16, 1, 1, 0, [], []⟩ := ⟨_, rfl⟩
          rw [← hL0] at hW1
          have hr1 : D1.room = 20 := hR1.1.trans HRM.out
          have hu1 : D1.fuse < 0 := hR1.2.2 (by rw [HFU.out]; omega)
          have hfm := format_dk hd hbl.size (first := 2) (size := 16) (by omega) (by omega) (by omega) (by omega) (by rw [HBK.out]; omega) (by rw [HBK.out]; omega) (by omega)
          have hbk2 : k + 2 ≤ 22 := by omega
          rw [hF1] at hfm
          have HFM := Lib.hid hfm
          have HW1 := Lib.hid hW1
          have HR1 := Lib.hid hr1
          have HL0 := Lib.hid hL0
          clear hfm hF1 hW1 hr1 hL0 hR1 hdn hby hst hbu hso hz
          go_wp2_with fail
          refine HFM.out.mono ?_
          rintro e w3 ⟨rfl, T3, hd3, hm3⟩
          have hb3 : Below w.heap.size w w3 := hbl.trans (hm3.1.below hbl.size fun b hb => hd.new b hb)
          have hd3 := hd3.more hbk2
          clear HFM hm3 hd hbl
          go_wp2_with fail
          refine (open_at (rows := []) 2 16 hd3 hb3.size HW1.out (by rw [HL0.out]) (by rw [HL0.out]) (by rw [HL0.out]) (by rw [HL0.out]; rfl) (by omega)).mono ?_
          rintro e w4 ⟨g, S, R, v, rfl, hl4, hv4, hS4, hR4, hSR4, hb34⟩
          have hb4 : Below w.heap.size w w4 := hb3.trans (hb34.mono hb3.size)
          obtain ⟨Av, cv, rfl⟩ := hv4.form
          clear hv4 hR4 hSR4 hS4 hb34 hb3 hd3
          have hap0 : AppI L0 L0 [] := AppI.start (by rw [HL0.out]) (by rw [HL0.out]; simp)
          have HSZ := Lib.hid (show L0.size = 16 by rw [HL0.out])
          go_wp2_with fail
          go_loopw [14] (fun i wr => ∃ (k : Nat) (rows : List (List UInt8)) (S : Nat → Prop) (L : LogS), k ≤ a.length ∧ i = .int .i64 k ∧ AppI L0 L rows ∧ LD w wr g p S T3 L D1 22 ∧ Below w.heap.size w wr) (fun i _ => a.length - (intOf i).toNat)
          case atStart => exact ⟨0, [], S, L0, Nat.zero_le _, rfl, hap0, hl4, hb4⟩
          case round =>
            clear hl4 hb4 hap0
            obtain ⟨k, rows, S, L, hk, rfl, hap, hld, hbl⟩ := hrel
            by_cases hlt : k < a.length
            · as_aux_lemma =>
              obtain ⟨ba, oa, u, rfl, hcell, hu, _, _⟩ := (HA.out.below hbl).at_ hlt
              obtain ⟨x, hx⟩ : ∃ x, x = a[k] := ⟨_, rfl⟩
              rw [← hx] at hu
              clear hx
              have hltI : (k : Int) < (a.length : Int) := by omega
              have hsm := hap.small_ (by rw [hap.is]; simp only; rw [HSZ.out]; omega)
              obtain ⟨Au, cu, rfl⟩ := hu.form
              have hSz : L.size = 16 := by rw [hap.is]; exact HSZ.out
              have hmore := hap.more x hu.2
              have HAP := Lib.hid hap; clear hap
              have happ := append_ld hld x _ hu.1 (fun b hb hlt => Nat.not_lt.2 (hld.new b hb) hlt) (by rw [hSz]; omega) (by rw [hSz]; omega) (Nat.le_trans hsm.1 (by omega)) hsm.2.1 hu.2
              have HAPP := Lib.hid happ; clear happ hSz
              have HSM := Lib.hid hsm; clear hsm
              have HU := Lib.hid hu; clear hu
              go_wp2_with fail
              refine HAPP.out.mono ?_
              rintro e w5 ⟨rfl, S', hld', hmv⟩
              have hbl' := hld.out hmv hbl
              have hex : ∃ rows', AppI L0 (L.append x).1 rows' := by
                rcases hmore with ⟨_, h⟩ | ⟨_, h⟩
                · exact ⟨_, h⟩
                · exact ⟨_, h⟩
              obtain ⟨rows', hap'⟩ := hex
              clear hmore
              go_wp2_with fail
              exact ⟨⟨k + 1, rows', S', _, by omega, by go_num, hap', hld', hbl'⟩, by simp only [intOf]; omega⟩
            · as_aux_lemma =>
              have hka : ¬ (k : Int) < (a.length : Int) := by omega
              have hsy := HW1.out.sync_any hap (by rw [HL0.out]) hu1 (by rw [HL0.out, HR1.out]; simp) (by rw [HL0.out]; simp)
              obtain ⟨D2, L1, hs, hW2, hm1, hby1, hf1, hs1, hn1, he1, hR2⟩ := hsy
              have hsm := hap.small_ (by rw [hap.is]; simp only; rw [HSZ.out]; omega)
              have hLis := hap.is
              have q1 : L.first = 2 := by rw [hLis, HL0.out]
              have q2 : L.number = 1 := by rw [hLis, HL0.out]
              have q3 : L.epoch = 1 := by rw [hLis, HL0.out]
              have hsync := sync_ld hld (by rw [q1]; omega) (by rw [q1]; omega) (by rw [q2]; omega) (by rw [q3]; omega) hsm.2.2 (by omega)
              have hcnt := L.count_le hsm.2.2
              have hfirst1 : L1.first = 2 := by rw [hf1, HL0.out]
              have hsize1 : L1.size = 16 := by rw [hs1, HL0.out]
              have hnum1 : L1.number ≤ 2 := by rw [HL0.out] at hn1; exact hn1
              have hep1 : L1.epoch = 1 := by rw [he1, HL0.out]
              have hroom2 : D2.room = 20 := hR2.1.trans HR1.out
              have hfuse2 : D2.fuse < 0 := hR2.2.2 hu1
              rw [hs] at hsync
              have HSY := Lib.hid hsync; clear hsync
              obtain ⟨D3, hrs, hW3, hR3⟩ : ∃ D3, restartF D2 L1 = (D3, ⟨L1.first, L1.size, L1.number + 1, L1.epoch + 1, 0, [], []⟩, 0) ∧ WalI D3 ⟨L1.first, L1.size, L1.number + 1, L1.epoch + 1, 0, [], []⟩ ∧ Rooms D2 D3 := by
                rcases hW2.restarts hm1 (by omega) (by omega) (by rw [hfirst1, hroom2]; omega) with ⟨D3, h1, h2, _, h3⟩ | ⟨h0, _⟩
                · exact ⟨D3, h1, h2, h3⟩
                · omega
              obtain ⟨L2, hL2⟩ : ∃ L2 : LogS, L2 = ⟨L1.first, L1.size, L1.number + 1, L1.epoch + 1, 0, [], []⟩ := ⟨_, rfl⟩
              rw [← hL2] at hrs hW3
              have HRS := Lib.hid hrs
              have HW3 := Lib.hid hW3
              have HX := Lib.hid (show L2.first = 2 ∧ L2.size = 16 ∧ L2.epoch = 2 ∧ L2.bytes = [] ∧ L2.more = [] by rw [hL2]; exact ⟨hfirst1, hsize1, by simp only; rw [hep1], rfl, rfl⟩)
              have hnum2 : L2.number ≤ 3 := by rw [hL2]; simp only; omega
              have HR3 := Lib.hid (hR3.1.trans hroom2)
              have hfuse3 := hR3.2.2 hfuse2
              have hl1small := hW2.small
              have HQ1 := Lib.hid (And.intro hfirst1 hep1)
              clear hs hm1 hby1 hf1 hs1 he1 hR2 hLis q1 q2 q3 hfirst1 hsize1 hep1 hroom2 hsm hap hW2 hn1 hrs hW3 hL2 hR3
              go_wp2_with fail
              refine HSY.out.mono ?_
              rintro e w5 ⟨rfl, S5, T5, hl5, hm5⟩
              have hb5 := hld.out hm5 hbl
              have hl5 := hl5.more (C := 5000) (by omega)
              clear hld hm5 hbl HSY hcnt
              have hrst := restart_ld hl5 (by rw [HQ1.out.1]; omega) (by rw [HQ1.out.1]; omega) (by omega) (by rw [HQ1.out.2]; omega) (by omega)
              rw [HRS.out] at hrst
              have HRST := Lib.hid hrst; clear hrst
              go_wp2_with fail
              refine HRST.out.mono ?_
              rintro e w6 ⟨rfl, T6, hl6, hm6⟩
              have hb6 := hl5.out hm6 hb5
              clear hl5 hm6 hb5 HRST
              go_wp2_with fail
              obtain ⟨w7, hw7⟩ : ∃ w7, w7 = w6.alloc (.cells #[] 32) := ⟨_, rfl⟩
              obtain ⟨X7, hX7⟩ : ∃ X7, X7 = w6.heap.size := ⟨_, rfl⟩
              rw [← hw7, ← hX7]
              have hl7 : LD w w7 g p S5 T6 L2 D3 5001 := by rw [hw7]; exact hl6.below ((Below.refl _ w6).alloc (Nat.le_refl _) _)
              have hb7 : Below w.heap.size w w7 := by rw [hw7]; exact hb6.alloc hb6.size _
              have hwant : Bss w7 (fun b => w.heap.size ≤ b ∧ ¬ Or2 S5 T6 b) (fun b => b < w.heap.size) (.slice (some ⟨X7, 0, none⟩) 0 0) [] := by
                rw [hw7, hX7]
                refine ⟨[], Own.empty w6 _ 1, fun k hk => ?_, fun i x u h => by simp at h⟩
                injection hk with hk
                subst hk
                exact ⟨hb6.size, fun hx => Nat.lt_irrefl _ (hl6.lt _ hx)⟩
              have hap2 : AppI L2 L2 [] := AppI.start HX.out.2.2.2.2 HW3.out.area
              clear hw7 hX7 hl6 hb6
              have HSZ2 := Lib.hid HX.out.2.1
              go_loopw [15, 16] (fun v i wr => ∃ (k : Nat) (rows : List (List UInt8)) (S : Nat → Prop) (L : LogS), k ≤ b.length ∧ i = .int .i64 k ∧ AppI L2 L rows ∧ LD w wr g p S T6 L D3 5001 ∧ Bss wr (fun b => w.heap.size ≤ b ∧ ¬ Or2 S T6 b) (fun b => b < w.heap.size) v rows ∧ Below w.heap.size w wr) (fun _ i _ => b.length - (intOf i).toNat)
              case atStart => exact ⟨0, [], S5, L2, Nat.zero_le _, rfl, hap2, hl7, hwant, hb7⟩
              case round =>
                clear hl7 hb7 hap2 hwant
                obtain ⟨k, rows, S, L, hk, rfl, hap, hld, hwant, hbl⟩ := hrel
                by_cases hlt : k < b.length
                · as_aux_lemma =>
                  obtain ⟨ba, oa, u, rfl, hcell, hu, _, hba⟩ := (HB.out.below hbl).at_ hlt
                  obtain ⟨x, hx⟩ : ∃ x, x = b[k] := ⟨_, rfl⟩
                  rw [← hx] at hu
                  clear hx
                  have hltI : (k : Int) < (b.length : Int) := by omega
                  have hsm := hap.small_ (by rw [hap.is]; simp only; rw [HSZ2.out]; omega)
                  obtain ⟨Au, cu, rfl⟩ := hu.form
                  obtain ⟨Ao, co, rfl⟩ := hwant.form
                  have hSz : L.size = 16 := by rw [hap.is]; exact HSZ2.out
                  have hmore := hap.more x hu.2
                  have hrl : 8 * rows.length ≤ 1048576 := by
                    have h1 := enc_count rows
                    have h2 := hsm.2.1
                    rw [hap.is] at h2
                    exact Nat.le_trans h1 h2
                  have happ := append_ld hld x _ hu.1 (fun b hb hlt => Nat.not_lt.2 (hld.new b hb) hlt) (by rw [hSz]; omega) (by rw [hSz]; omega) (Nat.le_trans hsm.1 (by omega)) hsm.2.1 hu.2
                  have HSM := Lib.hid hsm
                  have HU := Lib.hid hu
                  have HWANT := Lib.hid hwant
                  have HAP := Lib.hid hap
                  clear hSz hsm hu hwant hap
                  rcases hmore with ⟨he, hap'⟩ | ⟨he, hap'⟩
                  · rw [he] at happ
                    have HAPP := Lib.hid happ; clear happ he hap'
                    go_wp2_with fail
                    refine HAPP.out.mono ?_
                    rintro e w8 ⟨rfl, S', hld', hmv⟩
                    have hbl' := hld.out hmv hbl
                    have hw8 := HWANT.out.mv (P' := fun b => w.heap.size ≤ b ∧ ¬ Or2 S' T6 b) (fun k hP hlt => ⟨hP.1, fun hx => (hmv.2 k hx).elim hP.2 fun hn => by omega⟩) hmv.1 (fun k hP => hP.2) (fun k hQ hx => hx.elim (fun h => Nat.not_lt.2 (hld.new k h) hQ) fun h => Nat.not_lt.2 (hld.dk.new k h) hQ)
                    have HW8 := Lib.hid hw8
                    clear hw8 hcell
                    go_wp2_with fail
                    exact ⟨⟨k + 1, rows, S', _, by omega, by go_num, HAP.out, hld', HW8.out, hbl'⟩, by simp only [intOf]; omega⟩
                  · rw [he] at happ
                    have HAPP := Lib.hid happ; clear happ he
                    have HAP' := Lib.hid hap'; clear hap'
                    have H63 := Lib.hid (show rows.length + 1 ≤ maxLen ∧ (rows.length + 1) * 24 ≤ 140737488355328 from ⟨by simp only [maxLen]; omega, by omega⟩)
                    go_wp2_with fail
                    refine HAPP.out.mono ?_
                    rintro e w8 ⟨rfl, S', hld', hmv⟩
                    have hbl' := hld.out hmv hbl
                    have hw8 := HWANT.out.mv (P' := fun b => w.heap.size ≤ b ∧ ¬ Or2 S' T6 b) (fun k hP hlt => ⟨hP.1, fun hx => (hmv.2 k hx).elim hP.2 fun hn => by omega⟩) hmv.1 (fun k hP => hP.2) (fun k hQ hx => hx.elim (fun h => Nat.not_lt.2 (hld.new k h) hQ) fun h => Nat.not_lt.2 (hld.dk.new k h) hQ)
                    have hcell8 := (World.cell?_of_block (a := ⟨ba, oa + k, none⟩) ((hbl'.block ba hba).trans (hbl.block ba hba).symm)).trans hcell
                    have hu8 := HU.out.keep (w' := w8) hmv.1.size fun b hb _ => (hbl'.block b hb).trans (hbl.block b hb).symm
                    clear hcell
                    obtain ⟨vs, ho, hS, hr⟩ := hw8
                    have HO := Lib.hid (show ∀ ob, Own (w8.alloc ob) 32 1 (.slice Ao rows.length co) rows.length vs from fun ob => own_keep ho fun k hk => Below.heap_alloc w8 ob k (own_lt ho hk))
                    have HS2 := Lib.hid (Cs.of_new w8 32 (size := 1) 1 (cs := [.slice Au x.length cu]) rfl (by simp only [maxLen]; decide))
                    have HS := Lib.hid hS
                    have HR := Lib.hid hr
                    have hox : ∀ k, (Value.slice Ao rows.length co).ownBlock = some k → k < w8.heap.size := fun k hk => own_lt ho hk
                    have HOX := Lib.hid hox
                    have HU8 := Lib.hid hu8
                    clear hS hr ho hox hu8
                    go_wp2_with (at_builtin; refine wpList_app _ rfl _ _ _ rfl Try.underlying22 info_row rfl (by decide) (HO.out _) rfl HS2.out rfl (by simp [Value.oneCell']) H63.out.1 H63.out.2 ?_; intro v2 w9 ho9 hc9 hnil9 hat9; clear hnil9; obtain ⟨A9, c9, rfl⟩ := ho9.form; have HO9 := Lib.hid ho9; clear ho9; have HC9 := Lib.hid hc9; clear hc9; have HAT9 := Lib.hid hat9; clear hat9)
                    have hal8 : w8.heap.size ≤ (w8.alloc (.cells #[.slice Au x.length cu] 32)).heap.size := by simp
                    have hbX : Below w8.heap.size w8 (w8.alloc (.cells #[.slice Au x.length cu] 32)) := (Below.refl _ w8).alloc (Nat.le_refl _) _
                    have hpush := Bss.push (S := fun b => w.heap.size ≤ b ∧ ¬ Or2 S' T6 b) (T := fun b => b < w.heap.size) (HO.out _) HS.out (fun i y u h1 h2 => (HR.out i y u h1 h2).below hbX)
                      ((HU8.out.1.below hbX).sub fun b hb _ => ⟨hb, fun e => Nat.not_le.2 hb (HS.out b e).1⟩) HO9.out HC9.out HAT9.out ⟨Nat.le_trans hbl'.size hal8, fun hx => by have := hld'.lt _ hx; omega⟩
                    have hl9 := (hld'.below hbX).chg HC9.out fun b hb e => (HS.out b e).2 hb
                    have hbX' : Below w.heap.size w (w8.alloc (.cells #[.slice Au x.length cu] 32)) := hbl'.alloc hbl'.size _
                    have hb9 : Below w.heap.size w w9 := hbX'.trans (HC9.out.below hbX'.size fun b e => (HS.out b e).1)
                    exact ⟨⟨k + 1, rows ++ [x], S', _, by omega, by go_num, HAP'.out, hl9, hpush, hb9⟩, by simp only [intOf]; omega⟩
                · as_aux_lemma =>
                  have hkb : ¬ (k : Int) < (b.length : Int) := by omega
                  have hLis := hap.is
                  have hsy := HW3.out.sync_any hap HX.out.2.2.2.2 hfuse3 (by rw [HX.out.1, HX.out.2.1, HR3.out]; omega) (by omega)
                  obtain ⟨D4, L4, hs, hW4, hm4, hby4, hf4, hs4, hn4, he4, hR4⟩ := hsy
                  have hsm := hap.small_ (by rw [hLis]; simp only; rw [HSZ2.out]; omega)
                  have q1 : L.first = 2 := by rw [hLis]; exact HX.out.1
                  have q2 : L.number ≤ 3 := by rw [hLis]; exact hnum2
                  have q3 : L.epoch = 2 := by rw [hLis]; exact HX.out.2.2.1
                  have hcnt := L.count_le hsm.2.2
                  have hby4' : L4.bytes = enc rows := by rw [hby4, HX.out.2.2.2.1]; rfl
                  have hsmall : (enc rows).length ≤ 1048576 := by rw [← hby4']; exact hW4.small
                  have HS4 := Lib.hid hs
                  have HW4 := Lib.hid hW4
                  have HX4 := Lib.hid (And.intro hm4 (And.intro hby4' (And.intro (hf4.trans HX.out.1) (And.intro (hs4.trans HX.out.2.1) (he4.trans HX.out.2.2.1)))))
                  have HQ := Lib.hid (And.intro q1 (And.intro q3 hsm.2.2))
                  obtain ⟨Ao, co, rfl⟩ := hwant.form
                  clear hs hW4 hm4 hby4 hf4 hs4 hn4 he4 hR4 hby4' q1 q3 hsm hap hLis
                  go_wp2_with fail
                  refine (open_at (rows := []) 2 16 hld.dk hbl.size HW3.out HX.out.2.2.2.2 HX.out.1 HX.out.2.1 (by rw [HX.out.2.2.2.1]; rfl) (by omega)).mono ?_
                  rintro e w8 ⟨g8, S8, R8, v8, rfl, _, hv8, _, _, _, hb08⟩
                  have hb8 : Below w.heap.size w w8 := hbl.trans (hb08.mono hbl.size)
                  have hl8 := hld.below hb08
                  have hw8 := hwant.below hb08
                  obtain ⟨A8, c8, rfl⟩ := hv8.form
                  clear hv8 hb08 hld hbl hwant
                  have hsync := sync_ld hl8 (by rw [HQ.out.1]; omega) (by rw [HQ.out.1]; omega) (by omega) (by rw [HQ.out.2.1]; omega) HQ.out.2.2 (by omega)
                  rw [HS4.out] at hsync
                  have HSY := Lib.hid hsync; clear hsync
                  go_wp2_with fail
                  refine HSY.out.mono ?_
                  rintro e w9 ⟨rfl, S9, T9, hl9, hm9⟩
                  have hb9 := hl8.out hm9 hb8
                  have hw9 := hw8.mv (P' := fun b => w.heap.size ≤ b ∧ b < w9.heap.size) (fun k hP hlt => ⟨hP.1, Nat.lt_of_lt_of_le hlt hm9.1.size⟩) hm9.1 (fun k hP => hP.2) (fun k hQ hx => hx.elim (fun h => Nat.not_lt.2 (hl8.new k h) hQ) fun h => Nat.not_lt.2 (hl8.dk.new k h) hQ)
                  have hl9 := hl9.more (C := 10000) (by omega)
                  clear hl8 hm9 hb8 hw8 HSY hcnt
                  go_wp2_with fail
                  refine (open_at (rows := rows) 2 16 hl9.dk hb9.size HW4.out HX4.out.1 HX4.out.2.2.1 HX4.out.2.2.2.1 (by rw [HX4.out.2.1]; exact parse_small hsmall) (by omega)).mono ?_
                  rintro e w10 ⟨g10, S10, R10, v10, rfl, _, hv10, _, _, _, hb910⟩
                  have hb10 : Below w.heap.size w w10 := hb9.trans (hb910.mono hb9.size)
                  have hl10 := hl9.below hb910
                  have hsl : ∀ x ∈ rows, x.length ≤ 140737488355328 := fun x hx => by have := small_rows hsmall x hx; omega
                  have hr1 := hv10.read hsl
                  have hr2 := (hw9.below hb910).read hsl
                  obtain ⟨A10, c10, rfl⟩ := hv10.form
                  clear hv10 hb910 hl9 hb9 hw9
                  go_wp2_with fail
                  refine (same_any w10 hr1 hr2).mono ?_
                  rintro e w11 ⟨rfl, hb1011⟩
                  rw [show sameB rows rows = true by simp [sameB]]
                  have hl11 := hl10.below hb1011
                  have hb11 := hb10.trans (hb1011.mono hb10.size)
                  clear hr1 hr2 hl10 hb10 hb1011
                  have hep := epoch_any w11 g p S9 L4 hl11.log
                  rw [HX4.out.2.2.2.2] at hep
                  have HEP := Lib.hid hep; clear hep
                  go_wp2_with fail
                  refine HEP.out.mono ?_
                  rintro e w12 ⟨rfl, rfl⟩
                  go_wp2_with fail
                  go_ret
                  exact ⟨rfl, hb11⟩
      · have hk20I : (k : Int) < 20 := by omega
        have hj0I : ¬ (0 : Int) < (junk.length : Int) := by omega
        clear hj0
        as_aux_lemma =>
          have hdn := HDN.out
          obtain ⟨D1, hF1, hW1, _, hR1⟩ := formats (first := 2) (size := 16) HDN.out (by rw [HFU.out]; omega) hby hd.fine.ok (by rw [HBK.out]; simp [fitsB]) (by rw [HBK.out]; omega) (by rw [HRM.out]; omega)
          obtain ⟨L0, hL0⟩ : ∃ L0 : LogS, L0 = ⟨2, 16, 1, 1, 0, [], []⟩ := ⟨_, rfl⟩
          rw [← hL0] at hW1
          have hr1 : D1.room = 20 := hR1.1.trans HRM.out
          have hu1 : D1.fuse < 0 := hR1.2.2 (by rw [HFU.out]; omega)
          have hfm := format_dk hd hbl.size (first := 2) (size := 16) (by omega) (by omega) (by omega) (by omega) (by rw [HBK.out]; omega) (by rw [HBK.out]; omega) (by omega)
          have hbk2 : k + 2 ≤ 22 := by omega
          rw [hF1] at hfm
          have HFM := Lib.hid hfm
          have HW1 := Lib.hid hW1
          have HR1 := Lib.hid hr1
          have HL0 := Lib.hid hL0
          clear hfm hF1 hW1 hr1 hL0 hR1 hdn hby hst hbu hso hz
          go_wp2_with fail
          refine HFM.out.mono ?_
          rintro e w3 ⟨rfl, T3, hd3, hm3⟩
          have hb3 : Below w.heap.size w w3 := hbl.trans (hm3.1.below hbl.size fun b hb => hd.new b hb)
          have hd3 := hd3.more hbk2
          clear HFM hm3 hd hbl
          go_wp2_with fail
          refine (open_at (rows := []) 2 16 hd3 hb3.size HW1.out (by rw [HL0.out]) (by rw [HL0.out]) (by rw [HL0.out]) (by rw [HL0.out]; rfl) (by omega)).mono ?_
          rintro e w4 ⟨g, S, R, v, rfl, hl4, hv4, hS4, hR4, hSR4, hb34⟩
          have hb4 : Below w.heap.size w w4 := hb3.trans (hb34.mono hb3.size)
          obtain ⟨Av, cv, rfl⟩ := hv4.form
          clear hv4 hR4 hSR4 hS4 hb34 hb3 hd3
          have hap0 : AppI L0 L0 [] := AppI.start (by rw [HL0.out]) (by rw [HL0.out]; simp)
          have HSZ := Lib.hid (show L0.size = 16 by rw [HL0.out])
          go_wp2_with fail
          go_loopw [14] (fun i wr => ∃ (k : Nat) (rows : List (List UInt8)) (S : Nat → Prop) (L : LogS), k ≤ a.length ∧ i = .int .i64 k ∧ AppI L0 L rows ∧ LD w wr g p S T3 L D1 22 ∧ Below w.heap.size w wr) (fun i _ => a.length - (intOf i).toNat)
          case atStart => exact ⟨0, [], S, L0, Nat.zero_le _, rfl, hap0, hl4, hb4⟩
          case round =>
            clear hl4 hb4 hap0
            obtain ⟨k, rows, S, L, hk, rfl, hap, hld, hbl⟩ := hrel
            by_cases hlt : k < a.length
            · as_aux_lemma =>
              obtain ⟨ba, oa, u, rfl, hcell, hu, _, _⟩ := (HA.out.below hbl).at_ hlt
              obtain ⟨x, hx⟩ : ∃ x, x = a[k] := ⟨_, rfl⟩
              rw [← hx] at hu
              clear hx
              have hltI : (k : Int) < (a.length : Int) := by omega
              have hsm := hap.small_ (by rw [hap.is]; simp only; rw [HSZ.out]; omega)
              obtain ⟨Au, cu, rfl⟩ := hu.form
              have hSz : L.size = 16 := by rw [hap.is]; exact HSZ.out
              have hmore := hap.more x hu.2
              have HAP := Lib.hid hap; clear hap
              have happ := append_ld hld x _ hu.1 (fun b hb hlt => Nat.not_lt.2 (hld.new b hb) hlt) (by rw [hSz]; omega) (by rw [hSz]; omega) (Nat.le_trans hsm.1 (by omega)) hsm.2.1 hu.2
              have HAPP := Lib.hid happ; clear happ hSz
              have HSM := Lib.hid hsm; clear hsm
              have HU := Lib.hid hu; clear hu
              go_wp2_with fail
              refine HAPP.out.mono ?_
              rintro e w5 ⟨rfl, S', hld', hmv⟩
              have hbl' := hld.out hmv hbl
              have hex : ∃ rows', AppI L0 (L.append x).1 rows' := by
                rcases hmore with ⟨_, h⟩ | ⟨_, h⟩
                · exact ⟨_, h⟩
                · exact ⟨_, h⟩
              obtain ⟨rows', hap'⟩ := hex
              clear hmore
              go_wp2_with fail
              exact ⟨⟨k + 1, rows', S', _, by omega, by go_num, hap', hld', hbl'⟩, by simp only [intOf]; omega⟩
            · as_aux_lemma =>
              have hka : ¬ (k : Int) < (a.length : Int) := by omega
              have hsy := HW1.out.sync_any hap (by rw [HL0.out]) hu1 (by rw [HL0.out, HR1.out]; simp) (by rw [HL0.out]; simp)
              obtain ⟨D2, L1, hs, hW2, hm1, hby1, hf1, hs1, hn1, he1, hR2⟩ := hsy
              have hsm := hap.small_ (by rw [hap.is]; simp only; rw [HSZ.out]; omega)
              have hLis := hap.is
              have q1 : L.first = 2 := by rw [hLis, HL0.out]
              have q2 : L.number = 1 := by rw [hLis, HL0.out]
              have q3 : L.epoch = 1 := by rw [hLis, HL0.out]
              have hsync := sync_ld hld (by rw [q1]; omega) (by rw [q1]; omega) (by rw [q2]; omega) (by rw [q3]; omega) hsm.2.2 (by omega)
              have hcnt := L.count_le hsm.2.2
              have hfirst1 : L1.first = 2 := by rw [hf1, HL0.out]
              have hsize1 : L1.size = 16 := by rw [hs1, HL0.out]
              have hnum1 : L1.number ≤ 2 := by rw [HL0.out] at hn1; exact hn1
              have hep1 : L1.epoch = 1 := by rw [he1, HL0.out]
              have hroom2 : D2.room = 20 := hR2.1.trans HR1.out
              have hfuse2 : D2.fuse < 0 := hR2.2.2 hu1
              rw [hs] at hsync
              have HSY := Lib.hid hsync; clear hsync
              obtain ⟨D3, hrs, hW3, hR3⟩ : ∃ D3, restartF D2 L1 = (D3, ⟨L1.first, L1.size, L1.number + 1, L1.epoch + 1, 0, [], []⟩, 0) ∧ WalI D3 ⟨L1.first, L1.size, L1.number + 1, L1.epoch + 1, 0, [], []⟩ ∧ Rooms D2 D3 := by
                rcases hW2.restarts hm1 (by omega) (by omega) (by rw [hfirst1, hroom2]; omega) with ⟨D3, h1, h2, _, h3⟩ | ⟨h0, _⟩
                · exact ⟨D3, h1, h2, h3⟩
                · omega
              obtain ⟨L2, hL2⟩ : ∃ L2 : LogS, L2 = ⟨L1.first, L1.size, L1.number + 1, L1.epoch + 1, 0, [], []⟩ := ⟨_, rfl⟩
              rw [← hL2] at hrs hW3
              have HRS := Lib.hid hrs
              have HW3 := Lib.hid hW3
              have HX := Lib.hid (show L2.first = 2 ∧ L2.size = 16 ∧ L2.epoch = 2 ∧ L2.bytes = [] ∧ L2.more = [] by rw [hL2]; exact ⟨hfirst1, hsize1, by simp only; rw [hep1], rfl, rfl⟩)
              have hnum2 : L2.number ≤ 3 := by rw [hL2]; simp only; omega
              have HR3 := Lib.hid (hR3.1.trans hroom2)
              have hfuse3 := hR3.2.2 hfuse2
              have hl1small := hW2.small
              have HQ1 := Lib.hid (And.intro hfirst1 hep1)
              clear hs hm1 hby1 hf1 hs1 he1 hR2 hLis q1 q2 q3 hfirst1 hsize1 hep1 hroom2 hsm hap hW2 hn1 hrs hW3 hL2 hR3
              go_wp2_with fail
              refine HSY.out.mono ?_
              rintro e w5 ⟨rfl, S5, T5, hl5, hm5⟩
              have hb5 := hld.out hm5 hbl
              have hl5 := hl5.more (C := 5000) (by omega)
              clear hld hm5 hbl HSY hcnt
              have hrst := restart_ld hl5 (by rw [HQ1.out.1]; omega) (by rw [HQ1.out.1]; omega) (by omega) (by rw [HQ1.out.2]; omega) (by omega)
              rw [HRS.out] at hrst
              have HRST := Lib.hid hrst; clear hrst
              go_wp2_with fail
              refine HRST.out.mono ?_
              rintro e w6 ⟨rfl, T6, hl6, hm6⟩
              have hb6 := hl5.out hm6 hb5
              clear hl5 hm6 hb5 HRST
              go_wp2_with fail
              obtain ⟨w7, hw7⟩ : ∃ w7, w7 = w6.alloc (.cells #[] 32) := ⟨_, rfl⟩
              obtain ⟨X7, hX7⟩ : ∃ X7, X7 = w6.heap.size := ⟨_, rfl⟩
              rw [← hw7, ← hX7]
              have hl7 : LD w w7 g p S5 T6 L2 D3 5001 := by rw [hw7]; exact hl6.below ((Below.refl _ w6).alloc (Nat.le_refl _) _)
              have hb7 : Below w.heap.size w w7 := by rw [hw7]; exact hb6.alloc hb6.size _
              have hwant : Bss w7 (fun b => w.heap.size ≤ b ∧ ¬ Or2 S5 T6 b) (fun b => b < w.heap.size) (.slice (some ⟨X7, 0, none⟩) 0 0) [] := by
                rw [hw7, hX7]
                refine ⟨[], Own.empty w6 _ 1, fun k hk => ?_, fun i x u h => by simp at h⟩
                injection hk with hk
                subst hk
                exact ⟨hb6.size, fun hx => Nat.lt_irrefl _ (hl6.lt _ hx)⟩
              have hap2 : AppI L2 L2 [] := AppI.start HX.out.2.2.2.2 HW3.out.area
              clear hw7 hX7 hl6 hb6
              have HSZ2 := Lib.hid HX.out.2.1
              go_loopw [15, 16] (fun v i wr => ∃ (k : Nat) (rows : List (List UInt8)) (S : Nat → Prop) (L : LogS), k ≤ b.length ∧ i = .int .i64 k ∧ AppI L2 L rows ∧ LD w wr g p S T6 L D3 5001 ∧ Bss wr (fun b => w.heap.size ≤ b ∧ ¬ Or2 S T6 b) (fun b => b < w.heap.size) v rows ∧ Below w.heap.size w wr) (fun _ i _ => b.length - (intOf i).toNat)
              case atStart => exact ⟨0, [], S5, L2, Nat.zero_le _, rfl, hap2, hl7, hwant, hb7⟩
              case round =>
                clear hl7 hb7 hap2 hwant
                obtain ⟨k, rows, S, L, hk, rfl, hap, hld, hwant, hbl⟩ := hrel
                by_cases hlt : k < b.length
                · as_aux_lemma =>
                  obtain ⟨ba, oa, u, rfl, hcell, hu, _, hba⟩ := (HB.out.below hbl).at_ hlt
                  obtain ⟨x, hx⟩ : ∃ x, x = b[k] := ⟨_, rfl⟩
                  rw [← hx] at hu
                  clear hx
                  have hltI : (k : Int) < (b.length : Int) := by omega
                  have hsm := hap.small_ (by rw [hap.is]; simp only; rw [HSZ2.out]; omega)
                  obtain ⟨Au, cu, rfl⟩ := hu.form
                  obtain ⟨Ao, co, rfl⟩ := hwant.form
                  have hSz : L.size = 16 := by rw [hap.is]; exact HSZ2.out
                  have hmore := hap.more x hu.2
                  have hrl : 8 * rows.length ≤ 1048576 := by
                    have h1 := enc_count rows
                    have h2 := hsm.2.1
                    rw [hap.is] at h2
                    exact Nat.le_trans h1 h2
                  have happ := append_ld hld x _ hu.1 (fun b hb hlt => Nat.not_lt.2 (hld.new b hb) hlt) (by rw [hSz]; omega) (by rw [hSz]; omega) (Nat.le_trans hsm.1 (by omega)) hsm.2.1 hu.2
                  have HSM := Lib.hid hsm
                  have HU := Lib.hid hu
                  have HWANT := Lib.hid hwant
                  have HAP := Lib.hid hap
                  clear hSz hsm hu hwant hap
                  rcases hmore with ⟨he, hap'⟩ | ⟨he, hap'⟩
                  · rw [he] at happ
                    have HAPP := Lib.hid happ; clear happ he hap'
                    go_wp2_with fail
                    refine HAPP.out.mono ?_
                    rintro e w8 ⟨rfl, S', hld', hmv⟩
                    have hbl' := hld.out hmv hbl
                    have hw8 := HWANT.out.mv (P' := fun b => w.heap.size ≤ b ∧ ¬ Or2 S' T6 b) (fun k hP hlt => ⟨hP.1, fun hx => (hmv.2 k hx).elim hP.2 fun hn => by omega⟩) hmv.1 (fun k hP => hP.2) (fun k hQ hx => hx.elim (fun h => Nat.not_lt.2 (hld.new k h) hQ) fun h => Nat.not_lt.2 (hld.dk.new k h) hQ)
                    have HW8 := Lib.hid hw8
                    clear hw8 hcell
                    go_wp2_with fail
                    exact ⟨⟨k + 1, rows, S', _, by omega, by go_num, HAP.out, hld', HW8.out, hbl'⟩, by simp only [intOf]; omega⟩
                  · rw [he] at happ
                    have HAPP := Lib.hid happ; clear happ he
                    have HAP' := Lib.hid hap'; clear hap'
                    have H63 := Lib.hid (show rows.length + 1 ≤ maxLen ∧ (rows.length + 1) * 24 ≤ 140737488355328 from ⟨by simp only [maxLen]; omega, by omega⟩)
                    go_wp2_with fail
                    refine HAPP.out.mono ?_
                    rintro e w8 ⟨rfl, S', hld', hmv⟩
                    have hbl' := hld.out hmv hbl
                    have hw8 := HWANT.out.mv (P' := fun b => w.heap.size ≤ b ∧ ¬ Or2 S' T6 b) (fun k hP hlt => ⟨hP.1, fun hx => (hmv.2 k hx).elim hP.2 fun hn => by omega⟩) hmv.1 (fun k hP => hP.2) (fun k hQ hx => hx.elim (fun h => Nat.not_lt.2 (hld.new k h) hQ) fun h => Nat.not_lt.2 (hld.dk.new k h) hQ)
                    have hcell8 := (World.cell?_of_block (a := ⟨ba, oa + k, none⟩) ((hbl'.block ba hba).trans (hbl.block ba hba).symm)).trans hcell
                    have hu8 := HU.out.keep (w' := w8) hmv.1.size fun b hb _ => (hbl'.block b hb).trans (hbl.block b hb).symm
                    clear hcell
                    obtain ⟨vs, ho, hS, hr⟩ := hw8
                    have HO := Lib.hid (show ∀ ob, Own (w8.alloc ob) 32 1 (.slice Ao rows.length co) rows.length vs from fun ob => own_keep ho fun k hk => Below.heap_alloc w8 ob k (own_lt ho hk))
                    have HS2 := Lib.hid (Cs.of_new w8 32 (size := 1) 1 (cs := [.slice Au x.length cu]) rfl (by simp only [maxLen]; decide))
                    have HS := Lib.hid hS
                    have HR := Lib.hid hr
                    have hox : ∀ k, (Value.slice Ao rows.length co).ownBlock = some k → k < w8.heap.size := fun k hk => own_lt ho hk
                    have HOX := Lib.hid hox
                    have HU8 := Lib.hid hu8
                    clear hS hr ho hox hu8
                    go_wp2_with (at_builtin; refine wpList_app _ rfl _ _ _ rfl Try.underlying22 info_row rfl (by decide) (HO.out _) rfl HS2.out rfl (by simp [Value.oneCell']) H63.out.1 H63.out.2 ?_; intro v2 w9 ho9 hc9 hnil9 hat9; clear hnil9; obtain ⟨A9, c9, rfl⟩ := ho9.form; have HO9 := Lib.hid ho9; clear ho9; have HC9 := Lib.hid hc9; clear hc9; have HAT9 := Lib.hid hat9; clear hat9)
                    have hal8 : w8.heap.size ≤ (w8.alloc (.cells #[.slice Au x.length cu] 32)).heap.size := by simp
                    have hbX : Below w8.heap.size w8 (w8.alloc (.cells #[.slice Au x.length cu] 32)) := (Below.refl _ w8).alloc (Nat.le_refl _) _
                    have hpush := Bss.push (S := fun b => w.heap.size ≤ b ∧ ¬ Or2 S' T6 b) (T := fun b => b < w.heap.size) (HO.out _) HS.out (fun i y u h1 h2 => (HR.out i y u h1 h2).below hbX)
                      ((HU8.out.1.below hbX).sub fun b hb _ => ⟨hb, fun e => Nat.not_le.2 hb (HS.out b e).1⟩) HO9.out HC9.out HAT9.out ⟨Nat.le_trans hbl'.size hal8, fun hx => by have := hld'.lt _ hx; omega⟩
                    have hl9 := (hld'.below hbX).chg HC9.out fun b hb e => (HS.out b e).2 hb
                    have hbX' : Below w.heap.size w (w8.alloc (.cells #[.slice Au x.length cu] 32)) := hbl'.alloc hbl'.size _
                    have hb9 : Below w.heap.size w w9 := hbX'.trans (HC9.out.below hbX'.size fun b e => (HS.out b e).1)
                    exact ⟨⟨k + 1, rows ++ [x], S', _, by omega, by go_num, HAP'.out, hl9, hpush, hb9⟩, by simp only [intOf]; omega⟩
                · as_aux_lemma =>
                  have hkb : ¬ (k : Int) < (b.length : Int) := by omega
                  have hLis := hap.is
                  have hsy := HW3.out.sync_any hap HX.out.2.2.2.2 hfuse3 (by rw [HX.out.1, HX.out.2.1, HR3.out]; omega) (by omega)
                  obtain ⟨D4, L4, hs, hW4, hm4, hby4, hf4, hs4, hn4, he4, hR4⟩ := hsy
                  have hsm := hap.small_ (by rw [hLis]; simp only; rw [HSZ2.out]; omega)
                  have q1 : L.first = 2 := by rw [hLis]; exact HX.out.1
                  have q2 : L.number ≤ 3 := by rw [hLis]; exact hnum2
                  have q3 : L.epoch = 2 := by rw [hLis]; exact HX.out.2.2.1
                  have hcnt := L.count_le hsm.2.2
                  have hby4' : L4.bytes = enc rows := by rw [hby4, HX.out.2.2.2.1]; rfl
                  have hsmall : (enc rows).length ≤ 1048576 := by rw [← hby4']; exact hW4.small
                  have HS4 := Lib.hid hs
                  have HW4 := Lib.hid hW4
                  have HX4 := Lib.hid (And.intro hm4 (And.intro hby4' (And.intro (hf4.trans HX.out.1) (And.intro (hs4.trans HX.out.2.1) (he4.trans HX.out.2.2.1)))))
                  have HQ := Lib.hid (And.intro q1 (And.intro q3 hsm.2.2))
                  obtain ⟨Ao, co, rfl⟩ := hwant.form
                  clear hs hW4 hm4 hby4 hf4 hs4 hn4 he4 hR4 hby4' q1 q3 hsm hap hLis
                  go_wp2_with fail
                  refine (open_at (rows := []) 2 16 hld.dk hbl.size HW3.out HX.out.2.2.2.2 HX.out.1 HX.out.2.1 (by rw [HX.out.2.2.2.1]; rfl) (by omega)).mono ?_
                  rintro e w8 ⟨g8, S8, R8, v8, rfl, _, hv8, _, _, _, hb08⟩
                  have hb8 : Below w.heap.size w w8 := hbl.trans (hb08.mono hbl.size)
                  have hl8 := hld.below hb08
                  have hw8 := hwant.below hb08
                  obtain ⟨A8, c8, rfl⟩ := hv8.form
                  clear hv8 hb08 hld hbl hwant
                  have hsync := sync_ld hl8 (by rw [HQ.out.1]; omega) (by rw [HQ.out.1]; omega) (by omega) (by rw [HQ.out.2.1]; omega) HQ.out.2.2 (by omega)
                  rw [HS4.out] at hsync
                  have HSY := Lib.hid hsync; clear hsync
                  go_wp2_with fail
                  refine HSY.out.mono ?_
                  rintro e w9 ⟨rfl, S9, T9, hl9, hm9⟩
                  have hb9 := hl8.out hm9 hb8
                  have hw9 := hw8.mv (P' := fun b => w.heap.size ≤ b ∧ b < w9.heap.size) (fun k hP hlt => ⟨hP.1, Nat.lt_of_lt_of_le hlt hm9.1.size⟩) hm9.1 (fun k hP => hP.2) (fun k hQ hx => hx.elim (fun h => Nat.not_lt.2 (hl8.new k h) hQ) fun h => Nat.not_lt.2 (hl8.dk.new k h) hQ)
                  have hl9 := hl9.more (C := 10000) (by omega)
                  clear hl8 hm9 hb8 hw8 HSY hcnt
                  go_wp2_with fail
                  refine (open_at (rows := rows) 2 16 hl9.dk hb9.size HW4.out HX4.out.1 HX4.out.2.2.1 HX4.out.2.2.2.1 (by rw [HX4.out.2.1]; exact parse_small hsmall) (by omega)).mono ?_
                  rintro e w10 ⟨g10, S10, R10, v10, rfl, _, hv10, _, _, _, hb910⟩
                  have hb10 : Below w.heap.size w w10 := hb9.trans (hb910.mono hb9.size)
                  have hl10 := hl9.below hb910
                  have hsl : ∀ x ∈ rows, x.length ≤ 140737488355328 := fun x hx => by have := small_rows hsmall x hx; omega
                  have hr1 := hv10.read hsl
                  have hr2 := (hw9.below hb910).read hsl
                  obtain ⟨A10, c10, rfl⟩ := hv10.form
                  clear hv10 hb910 hl9 hb9 hw9
                  go_wp2_with fail
                  refine (same_any w10 hr1 hr2).mono ?_
                  rintro e w11 ⟨rfl, hb1011⟩
                  rw [show sameB rows rows = true by simp [sameB]]
                  have hl11 := hl10.below hb1011
                  have hb11 := hb10.trans (hb1011.mono hb10.size)
                  clear hr1 hr2 hl10 hb10 hb1011
                  have hep := epoch_any w11 g p S9 L4 hl11.log
                  rw [HX4.out.2.2.2.2] at hep
                  have HEP := Lib.hid hep; clear hep
                  go_wp2_with fail
                  refine HEP.out.mono ?_
                  rintro e w12 ⟨rfl, rfl⟩
                  go_wp2_with fail
                  go_ret
                  exact ⟨rfl, hb11⟩

end Go.Proofs.Ytcgokafhkkmaoaa
