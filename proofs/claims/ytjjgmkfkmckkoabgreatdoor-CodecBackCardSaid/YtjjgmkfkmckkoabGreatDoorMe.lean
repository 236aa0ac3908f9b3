/- Texts joined: CsN CxA CxB CxC CxD. -/
import Derived.Test.YtjjgmkfkmckkoabGreatDoorMd
import Derived.Test.YtjjgmkfkmckkoabGreatDoorMa
import Derived.Test.YtjjgmkfkmckkoabGreatDoorMb
import Derived.Test.YtjjgmkfkmckkoabGreatDoorMc
import Derived.Laws.BitsAllLaws
/- Codec: which type is of which shape; arguments opened. Printed by genFits.py. -/
namespace Go.Proofs.YtjjgmkfkmckkoabGreatDoor
open Go.ChangeShapes Go.WideShapes Go.ChangeAt Go.RowKit

theorem fits_num {P : Program} {sg : Bool} {t : TypeId} (h : P.underlying t = some (.int (nk sg))) : (Sh.num sg).fits P t := h
theorem fits_bool {P : Program} {t : TypeId} (h : P.underlying t = some .bool) : Sh.bool.fits P t := h
theorem fitsSig : tSig.fits Tryz.prog 37 := ⟨_, Tryz.underlying37, ⟨rfl, by kernel_rfl, (fits_num (by kernel_rfl)), ⟨rfl, by kernel_rfl, ⟨5, by kernel_rfl, Tryz.underlying5, by kernel_rfl, by kernel_rfl⟩, trivial⟩⟩, by kernel_rfl⟩
theorem fitsHeader : tHeader.fits Tryz.prog 29 := ⟨_, Tryz.underlying29, ⟨rfl, by kernel_rfl, (fits_num (by kernel_rfl)), ⟨rfl, by kernel_rfl, (fits_num (by kernel_rfl)), ⟨rfl, by kernel_rfl, (fits_num (by kernel_rfl)), ⟨rfl, by kernel_rfl, (fits_num (by kernel_rfl)), ⟨rfl, by kernel_rfl, ⟨5, by kernel_rfl, Tryz.underlying5, by kernel_rfl, by kernel_rfl⟩, ⟨rfl, by kernel_rfl, ⟨5, by kernel_rfl, Tryz.underlying5, by kernel_rfl, by kernel_rfl⟩, ⟨rfl, by kernel_rfl, ⟨5, by kernel_rfl, Tryz.underlying5, by kernel_rfl, by kernel_rfl⟩, ⟨rfl, by kernel_rfl, (fits_num (by kernel_rfl)), trivial⟩⟩⟩⟩⟩⟩⟩⟩, by kernel_rfl⟩
theorem fitsQC : tQC.fits Tryz.prog 33 := ⟨_, Tryz.underlying33, ⟨rfl, by kernel_rfl, (fits_num (by kernel_rfl)), ⟨rfl, by kernel_rfl, (fits_num (by kernel_rfl)), ⟨rfl, by kernel_rfl, (fits_num (by kernel_rfl)), ⟨rfl, by kernel_rfl, ⟨5, by kernel_rfl, Tryz.underlying5, by kernel_rfl, by kernel_rfl⟩, ⟨rfl, by kernel_rfl, ⟨3, by kernel_rfl, (fits_num (by kernel_rfl)), by kernel_rfl, by decide⟩, ⟨rfl, by kernel_rfl, ⟨37, by kernel_rfl, fitsSig, by kernel_rfl, by decide⟩, trivial⟩⟩⟩⟩⟩⟩, by kernel_rfl⟩
theorem fitsCommit : tCommit.fits Tryz.prog 56 := ⟨_, Tryz.underlying56, ⟨rfl, by kernel_rfl, ⟨29, by kernel_rfl, fitsHeader, by kernel_rfl, by decide⟩, ⟨rfl, by kernel_rfl, fitsQC, trivial⟩⟩, by kernel_rfl⟩
theorem fitsFact : tFact.fits Tryz.prog 58 := ⟨_, Tryz.underlying58, ⟨rfl, by kernel_rfl, fitsCommit, ⟨rfl, by kernel_rfl, ⟨5, by kernel_rfl, Tryz.underlying5, by kernel_rfl, by kernel_rfl⟩, ⟨rfl, by kernel_rfl, ⟨5, by kernel_rfl, Tryz.underlying5, by kernel_rfl⟩, ⟨rfl, by kernel_rfl, (fits_bool (by kernel_rfl)), ⟨rfl, by kernel_rfl, ⟨5, by kernel_rfl, Tryz.underlying5, by kernel_rfl⟩, trivial⟩⟩⟩⟩⟩, by kernel_rfl⟩
theorem fitsRecord : tRecord.fits Tryz.prog 67 := ⟨_, Tryz.underlying67, ⟨rfl, by kernel_rfl, (fits_num (by kernel_rfl)), ⟨rfl, by kernel_rfl, ⟨3, by kernel_rfl, (fits_num (by kernel_rfl)), by kernel_rfl, by decide⟩, ⟨rfl, by kernel_rfl, ⟨30, by kernel_rfl, ⟨3, by kernel_rfl, (fits_num (by kernel_rfl)), by kernel_rfl, by decide⟩, by kernel_rfl, by decide⟩, trivial⟩⟩⟩, by kernel_rfl⟩
theorem fitsTx : tTx.fits Tryz.prog 27 := ⟨_, Tryz.underlying27, ⟨rfl, by kernel_rfl, (fits_num (by kernel_rfl)), ⟨rfl, by kernel_rfl, (fits_num (by kernel_rfl)), ⟨rfl, by kernel_rfl, (fits_num (by kernel_rfl)), ⟨rfl, by kernel_rfl, (fits_num (by kernel_rfl)), ⟨rfl, by kernel_rfl, (fits_num (by kernel_rfl)), ⟨rfl, by kernel_rfl, (fits_num (by kernel_rfl)), ⟨rfl, by kernel_rfl, (fits_num (by kernel_rfl)), ⟨rfl, by kernel_rfl, ⟨5, by kernel_rfl, Tryz.underlying5, by kernel_rfl, by kernel_rfl⟩, ⟨rfl, by kernel_rfl, (fits_num (by kernel_rfl)), ⟨rfl, by kernel_rfl, ⟨58, by kernel_rfl, fitsFact, by kernel_rfl, by decide⟩, trivial⟩⟩⟩⟩⟩⟩⟩⟩⟩⟩, by kernel_rfl⟩
theorem fitsVote : tVote.fits Tryz.prog 87 := ⟨_, Tryz.underlying87, ⟨rfl, by kernel_rfl, (fits_num (by kernel_rfl)), ⟨rfl, by kernel_rfl, (fits_num (by kernel_rfl)), ⟨rfl, by kernel_rfl, (fits_num (by kernel_rfl)), ⟨rfl, by kernel_rfl, ⟨5, by kernel_rfl, Tryz.underlying5, by kernel_rfl, by kernel_rfl⟩, ⟨rfl, by kernel_rfl, (fits_num (by kernel_rfl)), ⟨rfl, by kernel_rfl, fitsSig, trivial⟩⟩⟩⟩⟩⟩, by kernel_rfl⟩
theorem fitsTimeout : tTimeout.fits Tryz.prog 91 := ⟨_, Tryz.underlying91, ⟨rfl, by kernel_rfl, (fits_num (by kernel_rfl)), ⟨rfl, by kernel_rfl, (fits_num (by kernel_rfl)), ⟨rfl, by kernel_rfl, (fits_num (by kernel_rfl)), ⟨rfl, by kernel_rfl, fitsQC, ⟨rfl, by kernel_rfl, (fits_num (by kernel_rfl)), ⟨rfl, by kernel_rfl, fitsSig, trivial⟩⟩⟩⟩⟩⟩, by kernel_rfl⟩
theorem fitsBlock : tBlock.fits Tryz.prog 39 := ⟨_, Tryz.underlying39, ⟨rfl, by kernel_rfl, fitsHeader, ⟨rfl, by kernel_rfl, fitsQC, ⟨rfl, by kernel_rfl, ⟨56, by kernel_rfl, fitsCommit, by kernel_rfl, by decide⟩, ⟨rfl, by kernel_rfl, ⟨27, by kernel_rfl, fitsTx, by kernel_rfl, by decide⟩, ⟨rfl, by kernel_rfl, fitsSig, trivial⟩⟩⟩⟩⟩, by kernel_rfl⟩
theorem fitsMessage : tMessage.fits Tryz.prog 48 := ⟨_, Tryz.underlying48, ⟨rfl, by kernel_rfl, (fits_num (by kernel_rfl)), ⟨rfl, by kernel_rfl, (fits_num (by kernel_rfl)), ⟨rfl, by kernel_rfl, (fits_num (by kernel_rfl)), ⟨rfl, by kernel_rfl, ⟨5, by kernel_rfl, Tryz.underlying5, by kernel_rfl, by kernel_rfl⟩, ⟨rfl, by kernel_rfl, ⟨39, by kernel_rfl, fitsBlock, by kernel_rfl, by decide⟩, ⟨rfl, by kernel_rfl, ⟨87, by kernel_rfl, fitsVote, by kernel_rfl, by decide⟩, ⟨rfl, by kernel_rfl, ⟨91, by kernel_rfl, fitsTimeout, by kernel_rfl, by decide⟩, ⟨rfl, by kernel_rfl, ⟨56, by kernel_rfl, fitsCommit, by kernel_rfl, by decide⟩, ⟨rfl, by kernel_rfl, ⟨27, by kernel_rfl, fitsTx, by kernel_rfl, by decide⟩, trivial⟩⟩⟩⟩⟩⟩⟩⟩⟩, by kernel_rfl⟩

theorem bulk_le {n k : Nat} (h : n + 8 ≤ 24 * k) (hk : k ≤ 1048576) : n ≤ 1099511627776 := by omega
theorem open_thing {P : Program} {H : Type} {enc : TypeId × Value → H} {W : World} {base : Nat} {fs : Fs} {t : TypeId} {v : Value} {d : DataW H} {p : List MemPlace} (hf : (Sh.tup fs).fits P t) (hB : (Sh.tup fs).plain = true ∨ Rows.uptoBulk d ≤ 1048576)
    (hv : Value.okWide P W .any base t v) (h : DataW.Trod enc P W 0 (fun _ => true) true t v d p) :
    ∃ (cs : List Value) (x : (Sh.tup fs).El), v = .agg cs.toArray ∧ (Sh.tup fs).rep W (fun b => b < W.heap.size) x cs ∧ (∀ u ∈ cs, u.oneCell' = true) ∧ (Rows.uptoBulk d ≤ 1048576 → ((Sh.tup fs).enc x).length ≤ 1099511627776) := by
  obtain ⟨F, hF, hfit, hc⟩ := hf
  obtain ⟨ca, hva, _⟩ := okWide_struct hF hv
  obtain ⟨n, h⟩ := h
  obtain ⟨cs, hcs⟩ : ∃ cs, cs = ca.toList := ⟨_, rfl⟩
  have hca : ca = cs.toArray := by rw [hcs]
  rw [hva, show (Value.agg ca).cells = ca from rfl, ← hcs] at h
  obtain ⟨x, hr, hl⟩ := Sh.open_ (Sh.tup fs) t n cs (d, p) ⟨F, hF, hfit, hc⟩ hB h
  exact ⟨cs, x, by rw [hva, hca], hr, Sh.rep_one _ _ _ hr, fun hd => bulk_le hl hd⟩

/-- A load of a whole block, guarded. -/
theorem wpList_load_blk_g {P : Program} {ops : Array Oper} {rest : List Oper} {op : Oper} {a : Act} {w : World} {Q : Exit → Act → World → Prop} (hgd : Region.wanted op (yielded ops a.tmps) = true) (ty : TypeId) (x : Operand) (ho : op.op = .load ty x) {X : Nat} {t : TypeId} {cs : List Value} (hb : Blk w X t cs.toArray) (hx : a.eval x = .pointer (some ⟨X, 0, none⟩)) {d : TypeDesc} (hu : P.underlying ty = some d) (hd : d.isRow = true)
    (hi : (P.info? ty).map (·.size) = some cs.length) (h : wpList P ops Q rest (a.put op.dst (.agg cs.toArray)) w) : wpList P ops Q (op :: rest) a w := by
  unfold wpList
  rw [if_pos hgd]
  exact .inl (wp_load_mid ty x ho X 0 hx cs _ hb.range hu hd hi h)

/-! The zero of a shape. -/
mutual
def Sh.zero : Sh → List Value
  | .num sg => [.int (nk sg) 0]
  | .dig => List.replicate 32 (.int .u8 0)
  | .byt => [.slice none 0 0]
  | .bool => [.bool false]
  | .list _ => [.slice none 0 0]
  | .tup fs => fs.zero
def Fs.zero : Fs → List Value
  | .nil => []
  | .cons s fs => s.zero ++ fs.zero
end
end Go.Proofs.YtjjgmkfkmckkoabGreatDoor

/- CodecBack's walk: a message and a fact. Printed by genBack.py. -/
namespace Go.Proofs.YtjjgmkfkmckkoabGreatDoor
open Go.RowKit Go.Maps
attribute [-simp] Tryz.isAgg24 Tryz.typeInfo24 Tryz.isAgg48 Tryz.typeInfo48 Tryz.isAgg58 Tryz.typeInfo58

set_option maxHeartbeats 16000000 in
set_option maxRecDepth 100000 in
theorem back_tt (w : World) {S : Nat → Prop} {v : Value} {bs : List UInt8} {sent : Value} (h : Bs w S v bs) (hS : ∀ b, S b → b < w.heap.size) (hp : Pk w sent)
    {x : tMessage.El} (hx : tMessage.dec bs = some x) (hbig : bs.length ≤ 262144) {y : tFact.El} (hy : tFact.dec bs = some y) :
    Calls Tryz.prog 5 #[v] w fun e w' => e = .returned (.bool true) ∧ Below w.heap.size w w' := by
  obtain ⟨A, cap, rfl⟩ := h.form
  have HAW := Lib.hid (awake_any w hp)
  have H := Lib.hid h
  have HS := Lib.hid hS
  have HL := Lib.hid (show bs.length ≤ 140737488355328 from h.2)
  have HP := Lib.hid hp
  have hl := h.2
  have H63 := Lib.hid (show 0 + bs.length ≤ maxLen ∧ (0 + bs.length) * 1 ≤ 140737488355328 from ⟨by simp only [maxLen]; omega, by omega⟩)
  have HX := Lib.hid hx
  have HY := Lib.hid hy
  have HBIG := Lib.hid hbig
  clear h hS hl hp hx hy hbig
  go_enter Tryz.func5, Tryz.ntmps5
  go_wp2_with fail
  refine HAW.out.mono ?_
  rintro e w1 ⟨rfl, hb1⟩
  have HB1 := Lib.hid hb1
  have HA1 := Lib.hid (H.out.below hb1)
  clear hb1 HAW
  go_wp2_with (at_builtin; refine wpList_app _ rfl _ _ _ rfl Tryz.underlying50 info_u8 rfl (by decide) (Own.empty w1 5 1) rfl (HA1.out.1.below ((Below.refl _ w1).alloc (Nat.le_refl _) _)) rfl (u8s_one _) H63.out.1 H63.out.2 ?_; intro v2 w2 ho2 hc2 hn2 hat2; clear hn2; have HO := Lib.hid ho2; clear ho2; have HC := Lib.hid hc2; clear hc2; have HAT := Lib.hid hat2; clear hat2; obtain ⟨A2, c2, hv2⟩ := HO.out.form; rw [Nat.zero_add] at hv2; subst hv2)
  have ho := HO.out
  rw [Nat.zero_add, List.nil_append] at ho
  have hrow : Bs w2 (Nw w1.heap.size w2) (.slice A2 bs.length c2) bs := ⟨Cs.of_own ho fun k hk => ⟨by
    rcases HAT.out with e | e
    · rw [e] at hk; simp [Value.ownBlock] at hk; omega
    · rw [e] at hk; injection hk with hk; simp at hk; omega, own_th ho hk⟩, H.out.2⟩
  have hb12 : Below w1.heap.size w1 w2 := (((Chg.refl (fun b => b = w1.heap.size) w1).alloc _).trans HC.out fun b h => .inl (by simp [Value.ownBlock] at h; exact h.symm)).below (Nat.le_refl _) fun b h => Nat.le_of_eq h.symm
  obtain ⟨O, oo, hO, hwo⟩ := Wrow.of_bs hrow
  have HOB := Lib.hid hO
  have HB2 := Lib.hid (HB1.out.trans (hb12.mono HB1.out.size))
  have HR2 := Lib.hid hrow
  have HW2 := Lib.hid hwo
  have HRM := Lib.hid (ReadMessage_anyN w2 hrow (HP.out.below HB2.out))
  have hz12 := hb12.size
  have hz01 := HB1.out.size
  clear HO HC HAT ho hrow hb12 hwo HA1 hO
  go_wp2_with fail
  refine HRM.out.mono ?_
  rintro e w3 ⟨hb3, C, n, rfl, hCl, hC1, hn⟩
  have hz23 := hb3.size
  have HB3 := Lib.hid (HB2.out.trans (hb3.mono HB2.out.size))
  have HR3 := Lib.hid (HR2.out.below hb3)
  have HW3 := Lib.hid (HW2.out.keep fun _ hlt => hb3.block O hlt)
  have HC1 := Lib.hid hC1
  have HCI := Lib.hid (show (Tryz.prog.info? 48).map (·.size) = some C.length from by rw [hCl]; kernel_rfl)
  have HZL := Lib.hid (show zFMessage.length = C.length from by rw [hCl]; rfl)
  obtain ⟨hrep, rfl⟩ : tMessage.rep w3 (Nw w2.heap.size w3) x C ∧ n = 0 := by
    rcases hn with ⟨h, _⟩ | ⟨_, ⟨y, h1, h2, h3⟩ | ⟨h1, _⟩⟩
    · have := HBIG.out; omega
    · rw [HX.out] at h1
      injection h1 with h1
      subst h1
      exact ⟨h3, h2⟩
    · rw [HX.out] at h1; cases h1
  have HREP := Lib.hid (Sh.rep_sub (S' := fun b => w2.heap.size ≤ b ∧ b < w3.heap.size) hrep fun b hb hlt => ⟨hb.1, hlt⟩)
  have hlx : (tMessage.enc x).length ≤ 1099511627776 := by rw [enc_of_dec HX.out]; exact Nat.le_trans HBIG.out (by omega)
  have HLX := Lib.hid hlx
  have hex : tMessage.enc x = bs := enc_of_dec HX.out
  have HEX := Lib.hid hex
  clear hrep hlx hex
  clear hCl hC1 hn hb3 HRM HR2 HW2 HB2
  go_wp2_with (refine wpList_store_blk (cs0 := zFMessage) (cs := C) rfl 48 _ _ rfl (Blk.new w3 _ _) rfl rfl HZL.out HCI.out HC1.out ?_; intro w4 hy4 hc4; have HX4 := Lib.hid hy4; have HC4 := Lib.hid (show Chg (fun _ => False) w3 w4 from ((Chg.refl _ w3).alloc _).trans hc4 fun b h => .inr (Nat.le_of_eq h.symm)); clear hy4 hc4)
  have hz34 : w3.heap.size + 1 ≤ w4.heap.size := by have := HX4.out.lt; omega
  have HB4 := Lib.hid (HB3.out.trans (HC4.out.below HB3.out.size fun b h => h.elim))
  have HR4 := Lib.hid (HR3.out.chg HC4.out fun _ _ h => h)
  have HW4 := Lib.hid (HW3.out.keep fun _ hlt => HC4.out.block O hlt id)
  have HRF := Lib.hid (ReadFact_anyN w4 HR4.out (HP.out.below HB4.out))
  have HREP4 := Lib.hid (Sh.rep_chg HREP.out HC4.out fun _ _ h => h)
  clear HC1 HZL HR3 HW3 HB3 HC4 HREP
  go_wp2_with fail
  refine HRF.out.mono ?_
  rintro e w5 ⟨hb5, C2, n2, rfl, hCl, hC1, hn⟩
  have hz45 := hb5.size
  have HB5 := Lib.hid (HB4.out.trans (hb5.mono HB4.out.size))
  have HX5 := Lib.hid (HX4.out.below hb5 HX4.out.lt)
  have HW5 := Lib.hid (HW4.out.keep fun _ hlt => hb5.block O hlt)
  have HC1 := Lib.hid hC1
  have HCJ := Lib.hid (show (Tryz.prog.info? 58).map (·.size) = some C2.length from by rw [hCl]; kernel_rfl)
  have HZL := Lib.hid (show zFFact.length = C2.length from by rw [hCl]; rfl)
  have HREP5 := Lib.hid (Sh.rep_to (S := fun b => w2.heap.size ≤ b ∧ b < w3.heap.size) (fun b _ hlt => ⟨Nat.lt_of_lt_of_le hlt hb5.size, hb5.block b hlt⟩) (fun _ h _ => h) _ _ _ HREP4.out)
  obtain ⟨hrep, rfl⟩ : tFact.rep w5 (Nw w4.heap.size w5) y C2 ∧ n2 = 0 := by
    rcases hn with ⟨h, _⟩ | ⟨_, ⟨y, h1, h2, h3⟩ | ⟨h1, _⟩⟩
    · have := HBIG.out; omega
    · rw [HY.out] at h1
      injection h1 with h1
      subst h1
      exact ⟨h3, h2⟩
    · rw [HY.out] at h1; cases h1
  have HREPY := Lib.hid (Sh.rep_sub (S' := fun _ => True) hrep fun _ _ _ => trivial)
  have HLY := Lib.hid (show (tFact.enc y).length ≤ 1099511627776 by rw [enc_of_dec HY.out]; exact Nat.le_trans HBIG.out (by omega))
  have HEY := Lib.hid (show tFact.enc y = bs from enc_of_dec HY.out)
  obtain ⟨v1, hv1, hbv⟩ := fact_value hrep
  obtain ⟨L, hL⟩ : ∃ L, L = y.2.2.1 := ⟨_, rfl⟩
  rw [← hL] at hbv
  obtain ⟨A1, c1, rfl⟩ := hbv.form
  obtain ⟨B, off, hB, hwb⟩ := Wrow.of_bs hbv
  obtain ⟨N, hN⟩ : ∃ N, N = L.length := ⟨_, rfl⟩
  rw [← hN] at hv1 hB hwb
  have HN63 := Lib.hid (show N ≤ 140737488355328 from by rw [hN]; exact hbv.2)
  clear hrep hL hbv hN
  have HV1 := Lib.hid hv1
  have HBB := Lib.hid hB
  have HWB5 := Lib.hid hwb
  clear hCl hC1 hn hb5 HRF HX4 HR4 HW4 HB4 hv1 hB hwb HREP4
  go_wp2_with (refine wpList_store_blk (cs0 := zFFact) (cs := C2) rfl 58 _ _ rfl (Blk.new w5 _ _) rfl rfl HZL.out HCJ.out HC1.out ?_; intro w6 hy6 hc6; have HY6 := Lib.hid hy6; have HC6 := Lib.hid (show Chg (fun _ => False) w5 w6 from ((Chg.refl _ w5).alloc _).trans hc6 fun b h => .inr (Nat.le_of_eq h.symm)); clear hy6 hc6)
  have hz56 : w5.heap.size + 1 ≤ w6.heap.size := by have := HY6.out.lt; omega
  have HB6 := Lib.hid (HB5.out.trans (HC6.out.below HB5.out.size fun b h => h.elim))
  have HX6 := Lib.hid (HX5.out.chg HC6.out id)
  have HW6 := Lib.hid (HW5.out.keep fun _ hlt => HC6.out.block O hlt id)
  have HWB6 := Lib.hid (HWB5.out.keep fun _ hlt => HC6.out.block B hlt id)
  have HREP6 := Lib.hid (Sh.rep_chg HREP5.out HC6.out fun _ _ h => h)
  have HREPY6 := Lib.hid (Sh.rep_chg HREPY.out HC6.out fun _ _ h => h)
  clear HC1 HZL HX5 HW5 HWB5 HB5 HC6 HREP5 HREPY
  have ha := (H.out.below HB6.out).drew
  have hx := HX6.out.drew
  have hy := HY6.out.drew
  have hb := HB6.out.drew
  have hb6 : Below w6.heap.size w6 w6.drew := (Below.refl _ w6).drew
  have hrx := Sh.rep_below HREP6.out hb6
  have hry := Sh.rep_below HREPY6.out hb6
  refine wp_region_segsV [([0, 1, 2, 6, 7, 3], [4]), ([5, 8, 9, 10, 11, 12, 13, 17, 18, 14], [15]), ([16, 19, 20, 21], [])] (by kernel_rfl) (by kernel_rfl) (by kernel_rfl) (by kernel_rfl)
    (SegV.mk (fun w' => Bs w' S (.slice A bs.length cap) bs ∧ Blk w' w3.heap.size 48 C.toArray ∧ Blk w' w5.heap.size 58 C2.toArray) (fun _ _ => trivial) ⟨ha, hx, hy⟩ ?_)
  (refine HoistK.yes (by rfl) (by kernel_rfl) ⟨?_, fun w' hSw => ?_, ?_⟩; rotate_left; (· go_simp; try with_reducible rfl); simp only [Act.put, List.setIfInBounds_toArray, List.getElem_toArray, List.getElem_cons_zero, List.set_cons_succ, List.set_cons_zero])
  (refine HoistK.yes (by rfl) (by kernel_rfl) ⟨?_, fun w' hSw => ?_, ?_⟩; rotate_left; (· go_simp; try with_reducible rfl); simp only [Act.put, List.setIfInBounds_toArray, List.getElem_toArray, List.getElem_cons_succ, List.getElem_cons_zero, List.set_cons_succ, List.set_cons_zero])
  (refine HoistK.yes (by rfl) (by kernel_rfl) ⟨?_, fun w' hSw => ?_, ?_⟩; rotate_left; (· go_simp; try with_reducible rfl); simp only [Act.put, List.setIfInBounds_toArray, List.getElem_toArray, List.getElem_cons_succ, List.getElem_cons_zero, List.set_cons_succ, List.set_cons_zero])
  (refine HoistK.yes (by rfl) (by kernel_rfl) ⟨?_, fun w' hSw => ?_, ?_⟩; rotate_left; (· go_simp; try with_reducible rfl); simp only [Act.put, List.setIfInBounds_toArray, List.getElem_toArray, List.getElem_cons_succ, List.getElem_cons_zero, List.set_cons_succ, List.set_cons_zero])
  (refine HoistK.yes (by rfl) (by kernel_rfl) ⟨?_, fun w' hSw => ?_, ?_⟩; rotate_left; (· have e1 := run_str hSw.1 Tryz.underlying50 Tryz.underlying5 Tryz.underlying9; go_simp; try with_reducible rfl); simp only [Act.put, List.setIfInBounds_toArray, List.getElem_toArray, List.getElem_cons_succ, List.getElem_cons_zero, List.set_cons_succ, List.set_cons_zero])
  (refine HoistK.load (by rfl) (by kernel_rfl) 48 _ rfl w3.heap.size 0 rfl C _ (fun w' hw => hw.2.1.range) Tryz.underlying48 rfl HCI.out ?_; simp only [Act.put, List.setIfInBounds_toArray, List.getElem_toArray, List.getElem_cons_succ, List.getElem_cons_zero, List.set_cons_succ, List.set_cons_zero])
  refine HoistK.nil_ ?_
  simp only [opsAt, List.filterMap_cons, List.filterMap_nil, List.getElem?_toArray, List.getElem?_cons_succ, List.getElem?_cons_zero]
  refine EffS.cons_ fun _ hQ => ?_
  go_wp2_with fail
  refine (message_any _ hrx HLX.out).mono ?_
  rintro e w7 ⟨v7, rfl, f7⟩
  rw [HEX.out] at f7
  obtain ⟨A7, c7, rfl⟩ := f7.1.form
  have hx7 := hx.below f7.2 hx.lt
  have hy7 := hy.below f7.2 hy.lt
  have hb7 := hb6.trans (f7.2.mono hb6.size)
  have ha7 := ha.below f7.2
  have h77 := f7.1.sub (T := fun _ => True) fun _ _ _ => trivial
  have hry7 := Sh.rep_below hry f7.2
  clear f7 hx hy hb6 ha hb hry
  go_wp2_with fail
  refine hQ _ _ ⟨ha7, hx7, hy7⟩ (EffS.nil_ (SegV.mk (fun w' => (Bs w' S (.slice A bs.length cap) bs ∧ Blk w' w3.heap.size 48 C.toArray ∧ Blk w' w5.heap.size 58 C2.toArray) ∧ Bs w' (fun _ => True) (.slice A7 bs.length c7) bs) (fun _ h => h.1) ⟨⟨ha7, hx7, hy7⟩, h77⟩ ?_))
  (refine HoistK.yes (by rfl) (by kernel_rfl) ⟨?_, fun w' hSw => ?_, ?_⟩; rotate_left; (· have e1 := run_str hSw.2 Tryz.underlying50 Tryz.underlying5 Tryz.underlying9; go_simp; try with_reducible rfl); simp only [Act.put, List.setIfInBounds_toArray, List.getElem_toArray, List.getElem_cons_succ, List.getElem_cons_zero, List.set_cons_succ, List.set_cons_zero])
  (refine HoistK.yes (by rfl) (by kernel_rfl) ⟨?_, fun w' hSw => ?_, ?_⟩; rotate_left; (· go_simp; try with_reducible rfl); simp only [Act.put, List.setIfInBounds_toArray, List.getElem_toArray, List.getElem_cons_succ, List.getElem_cons_zero, List.set_cons_succ, List.set_cons_zero])
  (refine HoistK.yes (by rfl) (by kernel_rfl) ⟨?_, fun w' hSw => ?_, ?_⟩; rotate_left; (· go_simp; try with_reducible rfl); simp only [Act.put, List.setIfInBounds_toArray, List.getElem_toArray, List.getElem_cons_succ, List.getElem_cons_zero, List.set_cons_succ, List.set_cons_zero])
  (refine HoistK.yes (by rfl) (by kernel_rfl) ⟨?_, fun w' hSw => ?_, ?_⟩; rotate_left; (· go_simp; try with_reducible rfl); simp only [Act.put, List.setIfInBounds_toArray, List.getElem_toArray, List.getElem_cons_succ, List.getElem_cons_zero, List.set_cons_succ, List.set_cons_zero])
  (refine HoistK.yes (by rfl) (by kernel_rfl) ⟨?_, fun w' hSw => ?_, ?_⟩; rotate_left; (· go_simp; try with_reducible rfl); simp only [Act.put, List.setIfInBounds_toArray, List.getElem_toArray, List.getElem_cons_succ, List.getElem_cons_zero, List.set_cons_succ, List.set_cons_zero])
  (refine HoistK.yes (by rfl) (by kernel_rfl) ⟨?_, fun w' hSw => ?_, ?_⟩; rotate_left; (· go_simp; try with_reducible rfl); simp only [Act.put, List.setIfInBounds_toArray, List.getElem_toArray, List.getElem_cons_succ, List.getElem_cons_zero, List.set_cons_succ, List.set_cons_zero])
  (refine HoistK.yes (by rfl) (by kernel_rfl) ⟨?_, fun w' hSw => ?_, ?_⟩; rotate_left; (· go_simp; try with_reducible rfl); simp only [Act.put, List.setIfInBounds_toArray, List.getElem_toArray, List.getElem_cons_succ, List.getElem_cons_zero, List.set_cons_succ, List.set_cons_zero])
  (refine HoistK.yes (by rfl) (by kernel_rfl) ⟨?_, fun w' hSw => ?_, ?_⟩; rotate_left; (· go_simp; try with_reducible rfl); simp only [Act.put, List.setIfInBounds_toArray, List.getElem_toArray, List.getElem_cons_succ, List.getElem_cons_zero, List.set_cons_succ, List.set_cons_zero])
  (refine HoistK.yes (by rfl) (by kernel_rfl) ⟨?_, fun w' hSw => ?_, ?_⟩; rotate_left; (· have e1 := run_str hSw.1.1 Tryz.underlying50 Tryz.underlying5 Tryz.underlying9; go_simp; try with_reducible rfl); simp only [Act.put, List.setIfInBounds_toArray, List.getElem_toArray, List.getElem_cons_succ, List.getElem_cons_zero, List.set_cons_succ, List.set_cons_zero])
  (refine HoistK.load (by rfl) (by kernel_rfl) 58 _ rfl w5.heap.size 0 rfl C2 _ (fun w' hw => hw.1.2.2.range) Tryz.underlying58 rfl HCJ.out ?_; simp only [Act.put, List.setIfInBounds_toArray, List.getElem_toArray, List.getElem_cons_succ, List.getElem_cons_zero, List.set_cons_succ, List.set_cons_zero])
  refine HoistK.nil_ ?_
  simp only [opsAt, List.filterMap_cons, List.filterMap_nil, List.getElem?_toArray, List.getElem?_cons_succ, List.getElem?_cons_zero]
  refine EffS.cons_ fun _ hQ => ?_
  go_wp2_with fail
  refine (fact_any _ hry7 HLY.out).mono ?_
  rintro e w8 ⟨v8, rfl, f8⟩
  rw [HEY.out] at f8
  obtain ⟨A8, c8, rfl⟩ := f8.1.form
  have hx8 := hx7.below f8.2 hx7.lt
  have hy8 := hy7.below f8.2 hy7.lt
  have hb8 := hb7.trans (f8.2.mono hb7.size)
  have ha8 := ha7.below f8.2
  have h78 := h77.below f8.2
  have h88 := f8.1.sub (T := fun _ => True) fun _ _ _ => trivial
  clear f8
  go_wp2_with fail
  refine hQ _ _ ⟨⟨ha8, hx8, hy8⟩, h78⟩ (EffS.nil_ (SegV.mk (fun w' => ((Bs w' S (.slice A bs.length cap) bs ∧ Blk w' w3.heap.size 48 C.toArray ∧ Blk w' w5.heap.size 58 C2.toArray) ∧ Bs w' (fun _ => True) (.slice A7 bs.length c7) bs) ∧ Bs w' (fun _ => True) (.slice A8 bs.length c8) bs) (fun _ h => h.1) ⟨⟨⟨ha8, hx8, hy8⟩, h78⟩, h88⟩ ?_))
  (refine HoistK.yes (by rfl) (by kernel_rfl) ⟨?_, fun w' hSw => ?_, ?_⟩; rotate_left; (· have e1 := run_str hSw.2 Tryz.underlying50 Tryz.underlying5 Tryz.underlying9; go_simp; try with_reducible rfl); simp only [Act.put, List.setIfInBounds_toArray, List.getElem_toArray, List.getElem_cons_succ, List.getElem_cons_zero, List.set_cons_succ, List.set_cons_zero])
  (refine HoistK.yes (by rfl) (by kernel_rfl) ⟨?_, fun w' hSw => ?_, ?_⟩; rotate_left; (· go_simp; try with_reducible rfl); simp only [Act.put, List.setIfInBounds_toArray, List.getElem_toArray, List.getElem_cons_succ, List.getElem_cons_zero, List.set_cons_succ, List.set_cons_zero])
  (refine HoistK.yes (by rfl) (by kernel_rfl) ⟨?_, fun w' hSw => ?_, ?_⟩; rotate_left; (· go_simp; try with_reducible rfl); simp only [Act.put, List.setIfInBounds_toArray, List.getElem_toArray, List.getElem_cons_succ, List.getElem_cons_zero, List.set_cons_succ, List.set_cons_zero])
  (refine HoistK.yes (by rfl) (by kernel_rfl) ⟨?_, fun w' hSw => ?_, ?_⟩; rotate_left; (· go_simp; try with_reducible rfl); simp only [Act.put, List.setIfInBounds_toArray, List.getElem_toArray, List.getElem_cons_succ, List.getElem_cons_zero, List.set_cons_succ, List.set_cons_zero])
  refine HoistK.nil_ ?_
  simp only [opsAt, List.filterMap_nil, List.getElem?_toArray]
  refine EffS.nil_ fun _ hQ => ?_
  have HY8 := Lib.hid hy8
  have HX8 := Lib.hid hx8
  have HB68 := Lib.hid hb8
  generalize w8 = W8 at *
  have HWB8 := Lib.hid (HWB6.out.keep fun _ hlt => HB68.out.block B hlt)
  have HW8 := Lib.hid (HW6.out.keep fun _ hlt => HB68.out.block O hlt)
  have HA8 := Lib.hid ha8
  have HREP8 := Lib.hid (Sh.rep_below HREP6.out HB68.out)
  have HB8 := Lib.hid (HB6.out.trans (HB68.out.mono HB6.out.size))
  have HCV := Lib.hid (show W8.cell? ⟨w5.heap.size, 70, none⟩ = some (.slice A1 N c1) by rw [HY8.out.cell]; simpa using HV1.out)
  have hcv := HCV.out
  have hz68 := HB68.out.size
  clear hx8 hy8 ha8 HWB6 HW6 HX6 HY6 HB6 HREP6 HREPY6
  go_wp2_with fail
  clear hcv
  have hN63 := HN63.out
  go_loopw [50] (fun i wr => ∃ k : Nat, k ≤ N ∧ i = .int .i64 k ∧ Hid (Wrow wr N B off A1) ∧ Chg (fun b => 0 < N ∧ b = B) W8 wr) (fun i _ => N - (intOf i).toNat)
  case atStart => exact ⟨0, Nat.zero_le _, rfl, HWB8, Chg.refl _ _⟩
  case round =>
    obtain ⟨k, hk, rfl, hW, hch⟩ := hrel
    have hcv : wr.cell? ⟨w5.heap.size, 70, none⟩ = some (.slice A1 N c1) := (World.cell?_of_block (a := ⟨w5.heap.size, 70, none⟩) (hch.block w5.heap.size HY8.out.lt (fun h => by have := HBB.out h.1; have := h.2; omega))).trans HCV.out
    by_cases hlt : k < N
    · obtain ⟨hA, hz, y1, hy1, hc, hw⟩ := hW.out.at_ hlt
      subst hA
      obtain ⟨z, hz2, hze⟩ := u8_wrap_nat ((y1 : Int) + 1)
      have HWZ := Lib.hid (hw z hz2)
      clear hw
      go_wp2_with fail
      refine ⟨⟨k + 1, by omega, by push_cast; rfl, Lib.hid ?_, hch.setOf ⟨by omega, rfl⟩ _ _⟩, by simp only [intOf]; omega⟩
      first | (rw [hze]; exact HWZ.out) | exact HWZ.out
    · have HX9 := Lib.hid (HX8.out.chg hch fun h => by have := HBB.out h.1; have := h.2; omega)
      have HW9 := Lib.hid (HW8.out.keep fun h0 hlt => hch.block O hlt fun h => by have := HBB.out h.1; have := HOB.out h0; have := h.2; omega)
      have HA9 := Lib.hid (HA8.out.chg hch fun b hb h => by have := HBB.out h.1; have := HS.out b hb; have := h.2; omega)
      have HREP9 := Lib.hid (Sh.rep_chg HREP8.out hch fun b h1 h => by have := HBB.out h.1; have := h.2; have := h1.1; have := h1.2; omega)
      have HB9 := Lib.hid (HB8.out.trans (hch.below HB8.out.size fun b h => by have := HBB.out h.1; have := h.2; omega))
      clear hW hcv hch hk hN63 HX8 HW8 HA8 HB8 HWB8 HCV HY8 HB68 HREP8
      go_wp2_with fail
      generalize wr = W9 at *
      have hbl := HL.out
      go_loopw [63] (fun i wr => ∃ k : Nat, k ≤ bs.length ∧ i = .int .i64 k ∧ Hid (Wrow wr bs.length O oo A2) ∧ Chg (fun b => 0 < bs.length ∧ b = O) W9 wr) (fun i _ => bs.length - (intOf i).toNat)
      case atStart => exact ⟨0, Nat.zero_le _, rfl, HW9, Chg.refl _ _⟩
      case round =>
        obtain ⟨k, hk, rfl, hW, hch⟩ := hrel
        by_cases hlt : k < bs.length
        · obtain ⟨hA, hz, y1, hy1, hc, hw⟩ := hW.out.at_ hlt
          subst hA
          obtain ⟨z, hz2, hze⟩ := u8_xor85 y1 hy1
          have HWZ := Lib.hid (hw z hz2)
          clear hw
          go_wp2_with fail
          refine ⟨⟨k + 1, by omega, by push_cast; rfl, Lib.hid ?_, hch.setOf ⟨by omega, rfl⟩ _ _⟩, by simp only [intOf]; omega⟩
          first | (rw [hze]; exact HWZ.out) | exact HWZ.out
        · have hx := (HX9.out.chg hch fun h => by have := HOB.out h.1; have := h.2; omega).drew
          have ha := (HA9.out.chg hch fun b hb h => by have := HOB.out h.1; have := HS.out b hb; have := h.2; omega).drew
          have hrx := Sh.rep_below (Sh.rep_chg HREP9.out hch fun b h1 h => by have := HOB.out h.1; have := h.2; have := h1.1; omega) (Below.refl _ wr).drew
          have hb := (HB9.out.trans (hch.below HB9.out.size fun b h => by have := HOB.out h.1; have := h.2; omega)).drew
          clear hW hch HX9 HW9 HA9 HB9 HREP9
          go_wp2_with fail
          refine wp_region_segsV [([0, 1, 2, 6, 7, 3], [4]), ([5, 8, 9], [10])] (by kernel_rfl) (by kernel_rfl) (by kernel_rfl) (by kernel_rfl) (SegV.mk (fun w' => Bs w' S (.slice A bs.length cap) bs ∧ Blk w' w3.heap.size 48 C.toArray) (fun _ _ => trivial) ⟨ha, hx⟩ ?_)
          (refine HoistK.yes (by rfl) (by kernel_rfl) ⟨?_, fun w' hSw => ?_, ?_⟩; rotate_left; (· go_simp; try with_reducible rfl); simp only [Act.put, List.setIfInBounds_toArray, List.getElem_toArray, List.getElem_cons_zero, List.set_cons_succ, List.set_cons_zero])
          (refine HoistK.yes (by rfl) (by kernel_rfl) ⟨?_, fun w' hSw => ?_, ?_⟩; rotate_left; (· go_simp; try with_reducible rfl); simp only [Act.put, List.setIfInBounds_toArray, List.getElem_toArray, List.getElem_cons_succ, List.getElem_cons_zero, List.set_cons_succ, List.set_cons_zero])
          (refine HoistK.yes (by rfl) (by kernel_rfl) ⟨?_, fun w' hSw => ?_, ?_⟩; rotate_left; (· go_simp; try with_reducible rfl); simp only [Act.put, List.setIfInBounds_toArray, List.getElem_toArray, List.getElem_cons_succ, List.getElem_cons_zero, List.set_cons_succ, List.set_cons_zero])
          (refine HoistK.yes (by rfl) (by kernel_rfl) ⟨?_, fun w' hSw => ?_, ?_⟩; rotate_left; (· go_simp; try with_reducible rfl); simp only [Act.put, List.setIfInBounds_toArray, List.getElem_toArray, List.getElem_cons_succ, List.getElem_cons_zero, List.set_cons_succ, List.set_cons_zero])
          (refine HoistK.yes (by rfl) (by kernel_rfl) ⟨?_, fun w' hSw => ?_, ?_⟩; rotate_left; (· have e1 := run_str hSw.1 Tryz.underlying50 Tryz.underlying5 Tryz.underlying9; go_simp; try with_reducible rfl); simp only [Act.put, List.setIfInBounds_toArray, List.getElem_toArray, List.getElem_cons_succ, List.getElem_cons_zero, List.set_cons_succ, List.set_cons_zero])
          (refine HoistK.load (by rfl) (by kernel_rfl) 48 _ rfl w3.heap.size 0 rfl C _ (fun w' hw => hw.2.range) Tryz.underlying48 rfl HCI.out ?_; simp only [Act.put, List.setIfInBounds_toArray, List.getElem_toArray, List.getElem_cons_succ, List.getElem_cons_zero, List.set_cons_succ, List.set_cons_zero])
          refine HoistK.nil_ ?_
          simp only [opsAt, List.filterMap_cons, List.filterMap_nil, List.getElem?_toArray, List.getElem?_cons_succ, List.getElem?_cons_zero]
          refine EffS.cons_ fun _ hQ => ?_
          go_wp2_with fail
          refine (message_any _ hrx HLX.out).mono ?_
          rintro e w9 ⟨v9, rfl, f9⟩
          rw [HEX.out] at f9
          obtain ⟨A9, c9, rfl⟩ := f9.1.form
          have hx9 := hx.below f9.2 hx.lt
          have hb9 := hb.trans (f9.2.mono hb.size)
          have ha9 := ha.below f9.2
          have h99 := f9.1.sub (T := fun _ => True) fun _ _ _ => trivial
          clear f9
          go_wp2_with fail
          refine hQ _ _ ⟨ha9, hx9⟩ (EffS.nil_ (SegV.mk (fun w' => (Bs w' S (.slice A bs.length cap) bs ∧ Blk w' w3.heap.size 48 C.toArray) ∧ Bs w' (fun _ => True) (.slice A9 bs.length c9) bs) (fun _ h => h.1) ⟨⟨ha9, hx9⟩, h99⟩ ?_))
          (refine HoistK.yes (by rfl) (by kernel_rfl) ⟨?_, fun w' hSw => ?_, ?_⟩; rotate_left; (· have e1 := run_str hSw.2 Tryz.underlying50 Tryz.underlying5 Tryz.underlying9; go_simp; try with_reducible rfl); simp only [Act.put, List.setIfInBounds_toArray, List.getElem_toArray, List.getElem_cons_succ, List.getElem_cons_zero, List.set_cons_succ, List.set_cons_zero])
          (refine HoistK.yes (by rfl) (by kernel_rfl) ⟨?_, fun w' hSw => ?_, ?_⟩; rotate_left; (· go_simp; try with_reducible rfl); simp only [Act.put, List.setIfInBounds_toArray, List.getElem_toArray, List.getElem_cons_succ, List.getElem_cons_zero, List.set_cons_succ, List.set_cons_zero])
          (refine HoistK.yes (by rfl) (by kernel_rfl) ⟨?_, fun w' hSw => ?_, ?_⟩; rotate_left; (· go_simp; try with_reducible rfl); simp only [Act.put, List.setIfInBounds_toArray, List.getElem_toArray, List.getElem_cons_succ, List.getElem_cons_zero, List.set_cons_succ, List.set_cons_zero])
          refine HoistK.nil_ ?_
          simp only [opsAt, List.filterMap_cons, List.filterMap_nil, List.getElem?_toArray, List.getElem?_cons_succ, List.getElem?_cons_zero]
          refine EffS.cons_ fun _ hQ => ?_
          go_wp2_with fail
          refine hQ _ _ ⟨⟨ha9, hx9⟩, h99⟩ (EffS.nil_ fun _ hQ => ?_)
          go_wp2_with fail
          go_ret
          exact ⟨rfl, hb9⟩

end Go.Proofs.YtjjgmkfkmckkoabGreatDoor

/- CodecBack's walk: a message, no fact. Printed by genBack.py. -/
namespace Go.Proofs.YtjjgmkfkmckkoabGreatDoor
open Go.RowKit Go.Maps
attribute [-simp] Tryz.isAgg24 Tryz.typeInfo24 Tryz.isAgg48 Tryz.typeInfo48 Tryz.isAgg58 Tryz.typeInfo58

set_option maxHeartbeats 16000000 in
set_option maxRecDepth 100000 in
theorem back_tf (w : World) {S : Nat → Prop} {v : Value} {bs : List UInt8} {sent : Value} (h : Bs w S v bs) (hS : ∀ b, S b → b < w.heap.size) (hp : Pk w sent)
    {x : tMessage.El} (hx : tMessage.dec bs = some x) (hbig : bs.length ≤ 262144) (hno2 : 262144 < bs.length ∨ tFact.dec bs = none) :
    Calls Tryz.prog 5 #[v] w fun e w' => e = .returned (.bool true) ∧ Below w.heap.size w w' := by
  obtain ⟨A, cap, rfl⟩ := h.form
  have HAW := Lib.hid (awake_any w hp)
  have H := Lib.hid h
  have HS := Lib.hid hS
  have HL := Lib.hid (show bs.length ≤ 140737488355328 from h.2)
  have HP := Lib.hid hp
  have hl := h.2
  have H63 := Lib.hid (show 0 + bs.length ≤ maxLen ∧ (0 + bs.length) * 1 ≤ 140737488355328 from ⟨by simp only [maxLen]; omega, by omega⟩)
  have HX := Lib.hid hx
  have HNO2 := Lib.hid hno2
  have HBIG := Lib.hid hbig
  clear h hS hl hp hx hno2 hbig
  go_enter Tryz.func5, Tryz.ntmps5
  go_wp2_with fail
  refine HAW.out.mono ?_
  rintro e w1 ⟨rfl, hb1⟩
  have HB1 := Lib.hid hb1
  have HA1 := Lib.hid (H.out.below hb1)
  clear hb1 HAW
  go_wp2_with (at_builtin; refine wpList_app _ rfl _ _ _ rfl Tryz.underlying50 info_u8 rfl (by decide) (Own.empty w1 5 1) rfl (HA1.out.1.below ((Below.refl _ w1).alloc (Nat.le_refl _) _)) rfl (u8s_one _) H63.out.1 H63.out.2 ?_; intro v2 w2 ho2 hc2 hn2 hat2; clear hn2; have HO := Lib.hid ho2; clear ho2; have HC := Lib.hid hc2; clear hc2; have HAT := Lib.hid hat2; clear hat2; obtain ⟨A2, c2, hv2⟩ := HO.out.form; rw [Nat.zero_add] at hv2; subst hv2)
  have ho := HO.out
  rw [Nat.zero_add, List.nil_append] at ho
  have hrow : Bs w2 (Nw w1.heap.size w2) (.slice A2 bs.length c2) bs := ⟨Cs.of_own ho fun k hk => ⟨by
    rcases HAT.out with e | e
    · rw [e] at hk; simp [Value.ownBlock] at hk; omega
    · rw [e] at hk; injection hk with hk; simp at hk; omega, own_th ho hk⟩, H.out.2⟩
  have hb12 : Below w1.heap.size w1 w2 := (((Chg.refl (fun b => b = w1.heap.size) w1).alloc _).trans HC.out fun b h => .inl (by simp [Value.ownBlock] at h; exact h.symm)).below (Nat.le_refl _) fun b h => Nat.le_of_eq h.symm
  obtain ⟨O, oo, hO, hwo⟩ := Wrow.of_bs hrow
  have HOB := Lib.hid hO
  have HB2 := Lib.hid (HB1.out.trans (hb12.mono HB1.out.size))
  have HR2 := Lib.hid hrow
  have HW2 := Lib.hid hwo
  have HRM := Lib.hid (ReadMessage_anyN w2 hrow (HP.out.below HB2.out))
  have hz12 := hb12.size
  have hz01 := HB1.out.size
  clear HO HC HAT ho hrow hb12 hwo HA1 hO
  go_wp2_with fail
  refine HRM.out.mono ?_
  rintro e w3 ⟨hb3, C, n, rfl, hCl, hC1, hn⟩
  have hz23 := hb3.size
  have HB3 := Lib.hid (HB2.out.trans (hb3.mono HB2.out.size))
  have HR3 := Lib.hid (HR2.out.below hb3)
  have HW3 := Lib.hid (HW2.out.keep fun _ hlt => hb3.block O hlt)
  have HC1 := Lib.hid hC1
  have HCI := Lib.hid (show (Tryz.prog.info? 48).map (·.size) = some C.length from by rw [hCl]; kernel_rfl)
  have HZL := Lib.hid (show zFMessage.length = C.length from by rw [hCl]; rfl)
  obtain ⟨hrep, rfl⟩ : tMessage.rep w3 (Nw w2.heap.size w3) x C ∧ n = 0 := by
    rcases hn with ⟨h, _⟩ | ⟨_, ⟨y, h1, h2, h3⟩ | ⟨h1, _⟩⟩
    · have := HBIG.out; omega
    · rw [HX.out] at h1
      injection h1 with h1
      subst h1
      exact ⟨h3, h2⟩
    · rw [HX.out] at h1; cases h1
  have HREP := Lib.hid (Sh.rep_sub (S' := fun b => w2.heap.size ≤ b ∧ b < w3.heap.size) hrep fun b hb hlt => ⟨hb.1, hlt⟩)
  have hlx : (tMessage.enc x).length ≤ 1099511627776 := by rw [enc_of_dec HX.out]; exact Nat.le_trans HBIG.out (by omega)
  have HLX := Lib.hid hlx
  have hex : tMessage.enc x = bs := enc_of_dec HX.out
  have HEX := Lib.hid hex
  clear hrep hlx hex
  clear hCl hC1 hn hb3 HRM HR2 HW2 HB2
  go_wp2_with (refine wpList_store_blk (cs0 := zFMessage) (cs := C) rfl 48 _ _ rfl (Blk.new w3 _ _) rfl rfl HZL.out HCI.out HC1.out ?_; intro w4 hy4 hc4; have HX4 := Lib.hid hy4; have HC4 := Lib.hid (show Chg (fun _ => False) w3 w4 from ((Chg.refl _ w3).alloc _).trans hc4 fun b h => .inr (Nat.le_of_eq h.symm)); clear hy4 hc4)
  have hz34 : w3.heap.size + 1 ≤ w4.heap.size := by have := HX4.out.lt; omega
  have HB4 := Lib.hid (HB3.out.trans (HC4.out.below HB3.out.size fun b h => h.elim))
  have HR4 := Lib.hid (HR3.out.chg HC4.out fun _ _ h => h)
  have HW4 := Lib.hid (HW3.out.keep fun _ hlt => HC4.out.block O hlt id)
  have HRF := Lib.hid (ReadFact_anyN w4 HR4.out (HP.out.below HB4.out))
  have HREP4 := Lib.hid (Sh.rep_chg HREP.out HC4.out fun _ _ h => h)
  clear HC1 HZL HR3 HW3 HB3 HC4 HREP
  go_wp2_with fail
  refine HRF.out.mono ?_
  rintro e w5 ⟨hb5, C2, n2, rfl, hCl, hC1, hn⟩
  have hz45 := hb5.size
  have HB5 := Lib.hid (HB4.out.trans (hb5.mono HB4.out.size))
  have HX5 := Lib.hid (HX4.out.below hb5 HX4.out.lt)
  have HW5 := Lib.hid (HW4.out.keep fun _ hlt => hb5.block O hlt)
  have HC1 := Lib.hid hC1
  have HCJ := Lib.hid (show (Tryz.prog.info? 58).map (·.size) = some C2.length from by rw [hCl]; kernel_rfl)
  have HZL := Lib.hid (show zFFact.length = C2.length from by rw [hCl]; rfl)
  have HREP5 := Lib.hid (Sh.rep_to (S := fun b => w2.heap.size ≤ b ∧ b < w3.heap.size) (fun b _ hlt => ⟨Nat.lt_of_lt_of_le hlt hb5.size, hb5.block b hlt⟩) (fun _ h _ => h) _ _ _ HREP4.out)
  obtain ⟨hn2, hz⟩ : ¬ n2 = 0 ∧ C2 = zFFact := by
    rcases hn with ⟨_, h, h'⟩ | ⟨_, ⟨y, h1, _⟩ | ⟨_, h, h'⟩⟩
    · exact ⟨by omega, h'⟩
    · rcases HNO2.out with h | h
      · omega
      · rw [h] at h1; cases h1
    · exact ⟨by omega, h'⟩
  obtain ⟨A1, c1, N, B, off, hv1, hB, hwb, hN63⟩ : ∃ (A1 : Option Addr) (c1 N B off : Nat), C2[70]? = some (.slice A1 N c1) ∧ (0 < N → w4.heap.size ≤ B ∧ B < w5.heap.size) ∧ Wrow w5 N B off A1 ∧ N ≤ 140737488355328 :=
    ⟨none, 0, 0, 0, 0, by rw [hz]; rfl, fun h => absurd h (Nat.lt_irrefl _), Wrow.zero_ _ _ _ _, by omega⟩
  have HN63 := Lib.hid hN63
  clear hz hN63
  have HV1 := Lib.hid hv1
  have HBB := Lib.hid hB
  have HWB5 := Lib.hid hwb
  clear hCl hC1 hn hb5 HRF HX4 HR4 HW4 HB4 hv1 hB hwb HREP4
  go_wp2_with (refine wpList_store_blk (cs0 := zFFact) (cs := C2) rfl 58 _ _ rfl (Blk.new w5 _ _) rfl rfl HZL.out HCJ.out HC1.out ?_; intro w6 hy6 hc6; have HY6 := Lib.hid hy6; have HC6 := Lib.hid (show Chg (fun _ => False) w5 w6 from ((Chg.refl _ w5).alloc _).trans hc6 fun b h => .inr (Nat.le_of_eq h.symm)); clear hy6 hc6)
  have hz56 : w5.heap.size + 1 ≤ w6.heap.size := by have := HY6.out.lt; omega
  have HB6 := Lib.hid (HB5.out.trans (HC6.out.below HB5.out.size fun b h => h.elim))
  have HX6 := Lib.hid (HX5.out.chg HC6.out id)
  have HW6 := Lib.hid (HW5.out.keep fun _ hlt => HC6.out.block O hlt id)
  have HWB6 := Lib.hid (HWB5.out.keep fun _ hlt => HC6.out.block B hlt id)
  have HREP6 := Lib.hid (Sh.rep_chg HREP5.out HC6.out fun _ _ h => h)
  
  clear HC1 HZL HX5 HW5 HWB5 HB5 HC6 HREP5 
  have ha := (H.out.below HB6.out).drew
  have hx := HX6.out.drew
  have hy := HY6.out.drew
  have hb := HB6.out.drew
  have hb6 : Below w6.heap.size w6 w6.drew := (Below.refl _ w6).drew
  have hrx := Sh.rep_below HREP6.out hb6
  
  refine wp_region_segsV [([0, 1, 2, 6, 7, 3], [4]), ([5, 8, 9, 10, 11, 12, 13, 17, 18, 14], [15]), ([16, 19, 20, 21], [])] (by kernel_rfl) (by kernel_rfl) (by kernel_rfl) (by kernel_rfl)
    (SegV.mk (fun w' => Bs w' S (.slice A bs.length cap) bs ∧ Blk w' w3.heap.size 48 C.toArray ∧ Blk w' w5.heap.size 58 C2.toArray) (fun _ _ => trivial) ⟨ha, hx, hy⟩ ?_)
  (refine HoistK.yes (by rfl) (by kernel_rfl) ⟨?_, fun w' hSw => ?_, ?_⟩; rotate_left; (· go_simp; try with_reducible rfl); simp only [Act.put, List.setIfInBounds_toArray, List.getElem_toArray, List.getElem_cons_zero, List.set_cons_succ, List.set_cons_zero])
  (refine HoistK.yes (by rfl) (by kernel_rfl) ⟨?_, fun w' hSw => ?_, ?_⟩; rotate_left; (· go_simp; try with_reducible rfl); simp only [Act.put, List.setIfInBounds_toArray, List.getElem_toArray, List.getElem_cons_succ, List.getElem_cons_zero, List.set_cons_succ, List.set_cons_zero])
  (refine HoistK.yes (by rfl) (by kernel_rfl) ⟨?_, fun w' hSw => ?_, ?_⟩; rotate_left; (· go_simp; try with_reducible rfl); simp only [Act.put, List.setIfInBounds_toArray, List.getElem_toArray, List.getElem_cons_succ, List.getElem_cons_zero, List.set_cons_succ, List.set_cons_zero])
  (refine HoistK.yes (by rfl) (by kernel_rfl) ⟨?_, fun w' hSw => ?_, ?_⟩; rotate_left; (· go_simp; try with_reducible rfl); simp only [Act.put, List.setIfInBounds_toArray, List.getElem_toArray, List.getElem_cons_succ, List.getElem_cons_zero, List.set_cons_succ, List.set_cons_zero])
  (refine HoistK.yes (by rfl) (by kernel_rfl) ⟨?_, fun w' hSw => ?_, ?_⟩; rotate_left; (· have e1 := run_str hSw.1 Tryz.underlying50 Tryz.underlying5 Tryz.underlying9; go_simp; try with_reducible rfl); simp only [Act.put, List.setIfInBounds_toArray, List.getElem_toArray, List.getElem_cons_succ, List.getElem_cons_zero, List.set_cons_succ, List.set_cons_zero])
  (refine HoistK.load (by rfl) (by kernel_rfl) 48 _ rfl w3.heap.size 0 rfl C _ (fun w' hw => hw.2.1.range) Tryz.underlying48 rfl HCI.out ?_; simp only [Act.put, List.setIfInBounds_toArray, List.getElem_toArray, List.getElem_cons_succ, List.getElem_cons_zero, List.set_cons_succ, List.set_cons_zero])
  refine HoistK.nil_ ?_
  simp only [opsAt, List.filterMap_cons, List.filterMap_nil, List.getElem?_toArray, List.getElem?_cons_succ, List.getElem?_cons_zero]
  refine EffS.cons_ fun _ hQ => ?_
  go_wp2_with fail
  refine (message_any _ hrx HLX.out).mono ?_
  rintro e w7 ⟨v7, rfl, f7⟩
  rw [HEX.out] at f7
  obtain ⟨A7, c7, rfl⟩ := f7.1.form
  have hx7 := hx.below f7.2 hx.lt
  have hy7 := hy.below f7.2 hy.lt
  have hb7 := hb6.trans (f7.2.mono hb6.size)
  have ha7 := ha.below f7.2
  have h77 := f7.1.sub (T := fun _ => True) fun _ _ _ => trivial
  
  clear f7 hx hy hb6 ha hb 
  go_wp2_with fail
  refine hQ _ _ ⟨ha7, hx7, hy7⟩ (EffS.nil_ (SegV.mk (fun w' => (Bs w' S (.slice A bs.length cap) bs ∧ Blk w' w3.heap.size 48 C.toArray ∧ Blk w' w5.heap.size 58 C2.toArray) ∧ Bs w' (fun _ => True) (.slice A7 bs.length c7) bs) (fun _ h => h.1) ⟨⟨ha7, hx7, hy7⟩, h77⟩ ?_))
  (refine HoistK.yes (by rfl) (by kernel_rfl) ⟨?_, fun w' hSw => ?_, ?_⟩; rotate_left; (· have e1 := run_str hSw.2 Tryz.underlying50 Tryz.underlying5 Tryz.underlying9; go_simp; try with_reducible rfl); simp only [Act.put, List.setIfInBounds_toArray, List.getElem_toArray, List.getElem_cons_succ, List.getElem_cons_zero, List.set_cons_succ, List.set_cons_zero])
  (refine HoistK.yes (by rfl) (by kernel_rfl) ⟨?_, fun w' hSw => ?_, ?_⟩; rotate_left; (· go_simp; try with_reducible rfl); simp only [Act.put, List.setIfInBounds_toArray, List.getElem_toArray, List.getElem_cons_succ, List.getElem_cons_zero, List.set_cons_succ, List.set_cons_zero])
  (refine HoistK.yes (by rfl) (by kernel_rfl) ⟨?_, fun w' hSw => ?_, ?_⟩; rotate_left; (· go_simp; try with_reducible rfl); simp only [Act.put, List.setIfInBounds_toArray, List.getElem_toArray, List.getElem_cons_succ, List.getElem_cons_zero, List.set_cons_succ, List.set_cons_zero])
  (refine HoistK.yes (by rfl) (by kernel_rfl) ⟨?_, fun w' hSw => ?_, ?_⟩; rotate_left; (· go_simp; try with_reducible rfl); simp only [Act.put, List.setIfInBounds_toArray, List.getElem_toArray, List.getElem_cons_succ, List.getElem_cons_zero, List.set_cons_succ, List.set_cons_zero])
  (refine HoistK.yes (by rfl) (by kernel_rfl) ⟨?_, fun w' hSw => ?_, ?_⟩; rotate_left; (· go_simp; try with_reducible rfl); simp only [Act.put, List.setIfInBounds_toArray, List.getElem_toArray, List.getElem_cons_succ, List.getElem_cons_zero, List.set_cons_succ, List.set_cons_zero])
  (refine HoistK.yes (by rfl) (by kernel_rfl) ⟨.bool false, fun w' hSw => ?_, ?_⟩; (· have hne : (n2 == 0) = false := (by simpa using hn2); have hnn : (n2 != 0) = true := (by simpa using hn2); first | (go_simp; done) | (go_simp; rw [hne]) | (go_simp; rw [hnn]) | (go_simp; simp [hn2])); simp only [Act.put, List.setIfInBounds_toArray, List.getElem_toArray, List.getElem_cons_succ, List.getElem_cons_zero, List.set_cons_succ, List.set_cons_zero])
  (refine HoistK.yes (by rfl) (by kernel_rfl) ⟨?_, fun w' hSw => ?_, ?_⟩; rotate_left; (· go_simp; try with_reducible rfl); simp only [Act.put, List.setIfInBounds_toArray, List.getElem_toArray, List.getElem_cons_succ, List.getElem_cons_zero, List.set_cons_succ, List.set_cons_zero])
  (refine HoistK.no (by rfl) (by kernel_rfl) ?_; simp only [Act.put, List.setIfInBounds_toArray, List.getElem_toArray, List.getElem_cons_succ, List.getElem_cons_zero, List.set_cons_succ, List.set_cons_zero])
  (refine HoistK.no (by rfl) (by kernel_rfl) ?_; simp only [Act.put, List.setIfInBounds_toArray, List.getElem_toArray, List.getElem_cons_succ, List.getElem_cons_zero, List.set_cons_succ, List.set_cons_zero])
  (refine HoistK.no (by rfl) (by kernel_rfl) ?_; simp only [Act.put, List.setIfInBounds_toArray, List.getElem_toArray, List.getElem_cons_succ, List.getElem_cons_zero, List.set_cons_succ, List.set_cons_zero])
  refine HoistK.nil_ ?_
  simp only [opsAt, List.filterMap_cons, List.filterMap_nil, List.getElem?_toArray, List.getElem?_cons_succ, List.getElem?_cons_zero]
  refine EffS.cons_ fun _ hQ => ?_
  go_wp2_with fail
  refine hQ _ _ ⟨⟨ha7, hx7, hy7⟩, h77⟩ (EffS.nil_ (SegV.mk (fun w' => ((Bs w' S (.slice A bs.length cap) bs ∧ Blk w' w3.heap.size 48 C.toArray ∧ Blk w' w5.heap.size 58 C2.toArray) ∧ Bs w' (fun _ => True) (.slice A7 bs.length c7) bs) ∧ True) (fun _ h => h.1) ⟨⟨⟨ha7, hx7, hy7⟩, h77⟩, trivial⟩ ?_))
  (refine HoistK.no (by rfl) (by kernel_rfl) ?_; simp only [Act.put, List.setIfInBounds_toArray, List.getElem_toArray, List.getElem_cons_succ, List.getElem_cons_zero, List.set_cons_succ, List.set_cons_zero])
  (refine HoistK.no (by rfl) (by kernel_rfl) ?_; simp only [Act.put, List.setIfInBounds_toArray, List.getElem_toArray, List.getElem_cons_succ, List.getElem_cons_zero, List.set_cons_succ, List.set_cons_zero])
  (refine HoistK.yes (by rfl) (by kernel_rfl) ⟨?_, fun w' hSw => ?_, ?_⟩; rotate_left; (· go_simp; try with_reducible rfl); simp only [Act.put, List.setIfInBounds_toArray, List.getElem_toArray, List.getElem_cons_succ, List.getElem_cons_zero, List.set_cons_succ, List.set_cons_zero])
  (refine HoistK.yes (by rfl) (by kernel_rfl) ⟨?_, fun w' hSw => ?_, ?_⟩; rotate_left; (· go_simp; try with_reducible rfl); simp only [Act.put, List.setIfInBounds_toArray, List.getElem_toArray, List.getElem_cons_succ, List.getElem_cons_zero, List.set_cons_succ, List.set_cons_zero])
  refine HoistK.nil_ ?_
  simp only [opsAt, List.filterMap_nil, List.getElem?_toArray]
  refine EffS.nil_ fun _ hQ => ?_
  have HY8 := Lib.hid hy7
  have HX8 := Lib.hid hx7
  have HB68 := Lib.hid hb7
  generalize w7 = W8 at *
  have HWB8 := Lib.hid (HWB6.out.keep fun _ hlt => HB68.out.block B hlt)
  have HW8 := Lib.hid (HW6.out.keep fun _ hlt => HB68.out.block O hlt)
  have HA8 := Lib.hid ha7
  have HREP8 := Lib.hid (Sh.rep_below HREP6.out HB68.out)
  have HB8 := Lib.hid (HB6.out.trans (HB68.out.mono HB6.out.size))
  have HCV := Lib.hid (show W8.cell? ⟨w5.heap.size, 70, none⟩ = some (.slice A1 N c1) by rw [HY8.out.cell]; simpa using HV1.out)
  have hcv := HCV.out
  have hz68 := HB68.out.size
  clear hx7 hy7 ha7 HWB6 HW6 HX6 HY6 HB6 HREP6 
  go_wp2_with fail
  clear hcv
  have hN63 := HN63.out
  go_loopw [50] (fun i wr => ∃ k : Nat, k ≤ N ∧ i = .int .i64 k ∧ Hid (Wrow wr N B off A1) ∧ Chg (fun b => 0 < N ∧ b = B) W8 wr) (fun i _ => N - (intOf i).toNat)
  case atStart => exact ⟨0, Nat.zero_le _, rfl, HWB8, Chg.refl _ _⟩
  case round =>
    obtain ⟨k, hk, rfl, hW, hch⟩ := hrel
    have hcv : wr.cell? ⟨w5.heap.size, 70, none⟩ = some (.slice A1 N c1) := (World.cell?_of_block (a := ⟨w5.heap.size, 70, none⟩) (hch.block w5.heap.size HY8.out.lt (fun h => by have := HBB.out h.1; have := h.2; omega))).trans HCV.out
    by_cases hlt : k < N
    · obtain ⟨hA, hz, y1, hy1, hc, hw⟩ := hW.out.at_ hlt
      subst hA
      obtain ⟨z, hz2, hze⟩ := u8_wrap_nat ((y1 : Int) + 1)
      have HWZ := Lib.hid (hw z hz2)
      clear hw
      go_wp2_with fail
      refine ⟨⟨k + 1, by omega, by push_cast; rfl, Lib.hid ?_, hch.setOf ⟨by omega, rfl⟩ _ _⟩, by simp only [intOf]; omega⟩
      first | (rw [hze]; exact HWZ.out) | exact HWZ.out
    · have HX9 := Lib.hid (HX8.out.chg hch fun h => by have := HBB.out h.1; have := h.2; omega)
      have HW9 := Lib.hid (HW8.out.keep fun h0 hlt => hch.block O hlt fun h => by have := HBB.out h.1; have := HOB.out h0; have := h.2; omega)
      have HA9 := Lib.hid (HA8.out.chg hch fun b hb h => by have := HBB.out h.1; have := HS.out b hb; have := h.2; omega)
      have HREP9 := Lib.hid (Sh.rep_chg HREP8.out hch fun b h1 h => by have := HBB.out h.1; have := h.2; have := h1.1; have := h1.2; omega)
      have HB9 := Lib.hid (HB8.out.trans (hch.below HB8.out.size fun b h => by have := HBB.out h.1; have := h.2; omega))
      clear hW hcv hch hk hN63 HX8 HW8 HA8 HB8 HWB8 HCV HY8 HB68 HREP8
      go_wp2_with fail
      generalize wr = W9 at *
      have hbl := HL.out
      go_loopw [63] (fun i wr => ∃ k : Nat, k ≤ bs.length ∧ i = .int .i64 k ∧ Hid (Wrow wr bs.length O oo A2) ∧ Chg (fun b => 0 < bs.length ∧ b = O) W9 wr) (fun i _ => bs.length - (intOf i).toNat)
      case atStart => exact ⟨0, Nat.zero_le _, rfl, HW9, Chg.refl _ _⟩
      case round =>
        obtain ⟨k, hk, rfl, hW, hch⟩ := hrel
        by_cases hlt : k < bs.length
        · obtain ⟨hA, hz, y1, hy1, hc, hw⟩ := hW.out.at_ hlt
          subst hA
          obtain ⟨z, hz2, hze⟩ := u8_xor85 y1 hy1
          have HWZ := Lib.hid (hw z hz2)
          clear hw
          go_wp2_with fail
          refine ⟨⟨k + 1, by omega, by push_cast; rfl, Lib.hid ?_, hch.setOf ⟨by omega, rfl⟩ _ _⟩, by simp only [intOf]; omega⟩
          first | (rw [hze]; exact HWZ.out) | exact HWZ.out
        · have hx := (HX9.out.chg hch fun h => by have := HOB.out h.1; have := h.2; omega).drew
          have ha := (HA9.out.chg hch fun b hb h => by have := HOB.out h.1; have := HS.out b hb; have := h.2; omega).drew
          have hrx := Sh.rep_below (Sh.rep_chg HREP9.out hch fun b h1 h => by have := HOB.out h.1; have := h.2; have := h1.1; omega) (Below.refl _ wr).drew
          have hb := (HB9.out.trans (hch.below HB9.out.size fun b h => by have := HOB.out h.1; have := h.2; omega)).drew
          clear hW hch HX9 HW9 HA9 HB9 HREP9
          go_wp2_with fail
          refine wp_region_segsV [([0, 1, 2, 6, 7, 3], [4]), ([5, 8, 9], [10])] (by kernel_rfl) (by kernel_rfl) (by kernel_rfl) (by kernel_rfl) (SegV.mk (fun w' => Bs w' S (.slice A bs.length cap) bs ∧ Blk w' w3.heap.size 48 C.toArray) (fun _ _ => trivial) ⟨ha, hx⟩ ?_)
          (refine HoistK.yes (by rfl) (by kernel_rfl) ⟨?_, fun w' hSw => ?_, ?_⟩; rotate_left; (· go_simp; try with_reducible rfl); simp only [Act.put, List.setIfInBounds_toArray, List.getElem_toArray, List.getElem_cons_zero, List.set_cons_succ, List.set_cons_zero])
          (refine HoistK.yes (by rfl) (by kernel_rfl) ⟨?_, fun w' hSw => ?_, ?_⟩; rotate_left; (· go_simp; try with_reducible rfl); simp only [Act.put, List.setIfInBounds_toArray, List.getElem_toArray, List.getElem_cons_succ, List.getElem_cons_zero, List.set_cons_succ, List.set_cons_zero])
          (refine HoistK.yes (by rfl) (by kernel_rfl) ⟨?_, fun w' hSw => ?_, ?_⟩; rotate_left; (· go_simp; try with_reducible rfl); simp only [Act.put, List.setIfInBounds_toArray, List.getElem_toArray, List.getElem_cons_succ, List.getElem_cons_zero, List.set_cons_succ, List.set_cons_zero])
          (refine HoistK.yes (by rfl) (by kernel_rfl) ⟨?_, fun w' hSw => ?_, ?_⟩; rotate_left; (· go_simp; try with_reducible rfl); simp only [Act.put, List.setIfInBounds_toArray, List.getElem_toArray, List.getElem_cons_succ, List.getElem_cons_zero, List.set_cons_succ, List.set_cons_zero])
          (refine HoistK.yes (by rfl) (by kernel_rfl) ⟨?_, fun w' hSw => ?_, ?_⟩; rotate_left; (· have e1 := run_str hSw.1 Tryz.underlying50 Tryz.underlying5 Tryz.underlying9; go_simp; try with_reducible rfl); simp only [Act.put, List.setIfInBounds_toArray, List.getElem_toArray, List.getElem_cons_succ, List.getElem_cons_zero, List.set_cons_succ, List.set_cons_zero])
          (refine HoistK.load (by rfl) (by kernel_rfl) 48 _ rfl w3.heap.size 0 rfl C _ (fun w' hw => hw.2.range) Tryz.underlying48 rfl HCI.out ?_; simp only [Act.put, List.setIfInBounds_toArray, List.getElem_toArray, List.getElem_cons_succ, List.getElem_cons_zero, List.set_cons_succ, List.set_cons_zero])
          refine HoistK.nil_ ?_
          simp only [opsAt, List.filterMap_cons, List.filterMap_nil, List.getElem?_toArray, List.getElem?_cons_succ, List.getElem?_cons_zero]
          refine EffS.cons_ fun _ hQ => ?_
          go_wp2_with fail
          refine (message_any _ hrx HLX.out).mono ?_
          rintro e w9 ⟨v9, rfl, f9⟩
          rw [HEX.out] at f9
          obtain ⟨A9, c9, rfl⟩ := f9.1.form
          have hx9 := hx.below f9.2 hx.lt
          have hb9 := hb.trans (f9.2.mono hb.size)
          have ha9 := ha.below f9.2
          have h99 := f9.1.sub (T := fun _ => True) fun _ _ _ => trivial
          clear f9
          go_wp2_with fail
          refine hQ _ _ ⟨ha9, hx9⟩ (EffS.nil_ (SegV.mk (fun w' => (Bs w' S (.slice A bs.length cap) bs ∧ Blk w' w3.heap.size 48 C.toArray) ∧ Bs w' (fun _ => True) (.slice A9 bs.length c9) bs) (fun _ h => h.1) ⟨⟨ha9, hx9⟩, h99⟩ ?_))
          (refine HoistK.yes (by rfl) (by kernel_rfl) ⟨?_, fun w' hSw => ?_, ?_⟩; rotate_left; (· have e1 := run_str hSw.2 Tryz.underlying50 Tryz.underlying5 Tryz.underlying9; go_simp; try with_reducible rfl); simp only [Act.put, List.setIfInBounds_toArray, List.getElem_toArray, List.getElem_cons_succ, List.getElem_cons_zero, List.set_cons_succ, List.set_cons_zero])
          (refine HoistK.yes (by rfl) (by kernel_rfl) ⟨?_, fun w' hSw => ?_, ?_⟩; rotate_left; (· go_simp; try with_reducible rfl); simp only [Act.put, List.setIfInBounds_toArray, List.getElem_toArray, List.getElem_cons_succ, List.getElem_cons_zero, List.set_cons_succ, List.set_cons_zero])
          (refine HoistK.yes (by rfl) (by kernel_rfl) ⟨?_, fun w' hSw => ?_, ?_⟩; rotate_left; (· go_simp; try with_reducible rfl); simp only [Act.put, List.setIfInBounds_toArray, List.getElem_toArray, List.getElem_cons_succ, List.getElem_cons_zero, List.set_cons_succ, List.set_cons_zero])
          refine HoistK.nil_ ?_
          simp only [opsAt, List.filterMap_cons, List.filterMap_nil, List.getElem?_toArray, List.getElem?_cons_succ, List.getElem?_cons_zero]
          refine EffS.cons_ fun _ hQ => ?_
          go_wp2_with fail
          refine hQ _ _ ⟨⟨ha9, hx9⟩, h99⟩ (EffS.nil_ fun _ hQ => ?_)
          go_wp2_with fail
          go_ret
          exact ⟨rfl, hb9⟩

end Go.Proofs.YtjjgmkfkmckkoabGreatDoor

/- CodecBack's walk: a fact, no message. Printed by genBack.py. -/
namespace Go.Proofs.YtjjgmkfkmckkoabGreatDoor
open Go.RowKit Go.Maps
attribute [-simp] Tryz.isAgg24 Tryz.typeInfo24 Tryz.isAgg48 Tryz.typeInfo48 Tryz.isAgg58 Tryz.typeInfo58

set_option maxHeartbeats 16000000 in
set_option maxRecDepth 100000 in
theorem back_ft (w : World) {S : Nat → Prop} {v : Value} {bs : List UInt8} {sent : Value} (h : Bs w S v bs) (hS : ∀ b, S b → b < w.heap.size) (hp : Pk w sent)
    (hno : 262144 < bs.length ∨ tMessage.dec bs = none) {y : tFact.El} (hy : tFact.dec bs = some y) (hbig : bs.length ≤ 262144) :
    Calls Tryz.prog 5 #[v] w fun e w' => e = .returned (.bool true) ∧ Below w.heap.size w w' := by
  obtain ⟨A, cap, rfl⟩ := h.form
  have HAW := Lib.hid (awake_any w hp)
  have H := Lib.hid h
  have HS := Lib.hid hS
  have HL := Lib.hid (show bs.length ≤ 140737488355328 from h.2)
  have HP := Lib.hid hp
  have hl := h.2
  have H63 := Lib.hid (show 0 + bs.length ≤ maxLen ∧ (0 + bs.length) * 1 ≤ 140737488355328 from ⟨by simp only [maxLen]; omega, by omega⟩)
  have HNO := Lib.hid hno
  have HY := Lib.hid hy
  have HBIG := Lib.hid hbig
  clear h hS hl hp hno hy hbig
  go_enter Tryz.func5, Tryz.ntmps5
  go_wp2_with fail
  refine HAW.out.mono ?_
  rintro e w1 ⟨rfl, hb1⟩
  have HB1 := Lib.hid hb1
  have HA1 := Lib.hid (H.out.below hb1)
  clear hb1 HAW
  go_wp2_with (at_builtin; refine wpList_app _ rfl _ _ _ rfl Tryz.underlying50 info_u8 rfl (by decide) (Own.empty w1 5 1) rfl (HA1.out.1.below ((Below.refl _ w1).alloc (Nat.le_refl _) _)) rfl (u8s_one _) H63.out.1 H63.out.2 ?_; intro v2 w2 ho2 hc2 hn2 hat2; clear hn2; have HO := Lib.hid ho2; clear ho2; have HC := Lib.hid hc2; clear hc2; have HAT := Lib.hid hat2; clear hat2; obtain ⟨A2, c2, hv2⟩ := HO.out.form; rw [Nat.zero_add] at hv2; subst hv2)
  have ho := HO.out
  rw [Nat.zero_add, List.nil_append] at ho
  have hrow : Bs w2 (Nw w1.heap.size w2) (.slice A2 bs.length c2) bs := ⟨Cs.of_own ho fun k hk => ⟨by
    rcases HAT.out with e | e
    · rw [e] at hk; simp [Value.ownBlock] at hk; omega
    · rw [e] at hk; injection hk with hk; simp at hk; omega, own_th ho hk⟩, H.out.2⟩
  have hb12 : Below w1.heap.size w1 w2 := (((Chg.refl (fun b => b = w1.heap.size) w1).alloc _).trans HC.out fun b h => .inl (by simp [Value.ownBlock] at h; exact h.symm)).below (Nat.le_refl _) fun b h => Nat.le_of_eq h.symm
  obtain ⟨O, oo, hO, hwo⟩ := Wrow.of_bs hrow
  have HOB := Lib.hid hO
  have HB2 := Lib.hid (HB1.out.trans (hb12.mono HB1.out.size))
  have HR2 := Lib.hid hrow
  have HW2 := Lib.hid hwo
  have HRM := Lib.hid (ReadMessage_anyN w2 hrow (HP.out.below HB2.out))
  have hz12 := hb12.size
  have hz01 := HB1.out.size
  clear HO HC HAT ho hrow hb12 hwo HA1 hO
  go_wp2_with fail
  refine HRM.out.mono ?_
  rintro e w3 ⟨hb3, C, n, rfl, hCl, hC1, hn⟩
  have hz23 := hb3.size
  have HB3 := Lib.hid (HB2.out.trans (hb3.mono HB2.out.size))
  have HR3 := Lib.hid (HR2.out.below hb3)
  have HW3 := Lib.hid (HW2.out.keep fun _ hlt => hb3.block O hlt)
  have HC1 := Lib.hid hC1
  have HCI := Lib.hid (show (Tryz.prog.info? 48).map (·.size) = some C.length from by rw [hCl]; kernel_rfl)
  have HZL := Lib.hid (show zFMessage.length = C.length from by rw [hCl]; rfl)
  have hn0 : ¬ n = 0 := by
    rcases hn with ⟨_, h, _⟩ | ⟨_, ⟨y, h1, _⟩ | ⟨_, h, _⟩⟩
    · omega
    · rcases HNO.out with h | h
      · omega
      · rw [h] at h1; cases h1
    · omega
  clear hCl hC1 hn hb3 HRM HR2 HW2 HB2
  go_wp2_with (refine wpList_store_blk (cs0 := zFMessage) (cs := C) rfl 48 _ _ rfl (Blk.new w3 _ _) rfl rfl HZL.out HCI.out HC1.out ?_; intro w4 hy4 hc4; have HX4 := Lib.hid hy4; have HC4 := Lib.hid (show Chg (fun _ => False) w3 w4 from ((Chg.refl _ w3).alloc _).trans hc4 fun b h => .inr (Nat.le_of_eq h.symm)); clear hy4 hc4)
  have hz34 : w3.heap.size + 1 ≤ w4.heap.size := by have := HX4.out.lt; omega
  have HB4 := Lib.hid (HB3.out.trans (HC4.out.below HB3.out.size fun b h => h.elim))
  have HR4 := Lib.hid (HR3.out.chg HC4.out fun _ _ h => h)
  have HW4 := Lib.hid (HW3.out.keep fun _ hlt => HC4.out.block O hlt id)
  have HRF := Lib.hid (ReadFact_anyN w4 HR4.out (HP.out.below HB4.out))
  
  clear HC1 HZL HR3 HW3 HB3 HC4 
  go_wp2_with fail
  refine HRF.out.mono ?_
  rintro e w5 ⟨hb5, C2, n2, rfl, hCl, hC1, hn⟩
  have hz45 := hb5.size
  have HB5 := Lib.hid (HB4.out.trans (hb5.mono HB4.out.size))
  have HX5 := Lib.hid (HX4.out.below hb5 HX4.out.lt)
  have HW5 := Lib.hid (HW4.out.keep fun _ hlt => hb5.block O hlt)
  have HC1 := Lib.hid hC1
  have HCJ := Lib.hid (show (Tryz.prog.info? 58).map (·.size) = some C2.length from by rw [hCl]; kernel_rfl)
  have HZL := Lib.hid (show zFFact.length = C2.length from by rw [hCl]; rfl)
  
  obtain ⟨hrep, rfl⟩ : tFact.rep w5 (Nw w4.heap.size w5) y C2 ∧ n2 = 0 := by
    rcases hn with ⟨h, _⟩ | ⟨_, ⟨y, h1, h2, h3⟩ | ⟨h1, _⟩⟩
    · have := HBIG.out; omega
    · rw [HY.out] at h1
      injection h1 with h1
      subst h1
      exact ⟨h3, h2⟩
    · rw [HY.out] at h1; cases h1
  have HREPY := Lib.hid (Sh.rep_sub (S' := fun _ => True) hrep fun _ _ _ => trivial)
  have HLY := Lib.hid (show (tFact.enc y).length ≤ 1099511627776 by rw [enc_of_dec HY.out]; exact Nat.le_trans HBIG.out (by omega))
  have HEY := Lib.hid (show tFact.enc y = bs from enc_of_dec HY.out)
  obtain ⟨v1, hv1, hbv⟩ := fact_value hrep
  obtain ⟨L, hL⟩ : ∃ L, L = y.2.2.1 := ⟨_, rfl⟩
  rw [← hL] at hbv
  obtain ⟨A1, c1, rfl⟩ := hbv.form
  obtain ⟨B, off, hB, hwb⟩ := Wrow.of_bs hbv
  obtain ⟨N, hN⟩ : ∃ N, N = L.length := ⟨_, rfl⟩
  rw [← hN] at hv1 hB hwb
  have HN63 := Lib.hid (show N ≤ 140737488355328 from by rw [hN]; exact hbv.2)
  clear hrep hL hbv hN
  have HV1 := Lib.hid hv1
  have HBB := Lib.hid hB
  have HWB5 := Lib.hid hwb
  clear hCl hC1 hn hb5 HRF HX4 HR4 HW4 HB4 hv1 hB hwb 
  go_wp2_with (refine wpList_store_blk (cs0 := zFFact) (cs := C2) rfl 58 _ _ rfl (Blk.new w5 _ _) rfl rfl HZL.out HCJ.out HC1.out ?_; intro w6 hy6 hc6; have HY6 := Lib.hid hy6; have HC6 := Lib.hid (show Chg (fun _ => False) w5 w6 from ((Chg.refl _ w5).alloc _).trans hc6 fun b h => .inr (Nat.le_of_eq h.symm)); clear hy6 hc6)
  have hz56 : w5.heap.size + 1 ≤ w6.heap.size := by have := HY6.out.lt; omega
  have HB6 := Lib.hid (HB5.out.trans (HC6.out.below HB5.out.size fun b h => h.elim))
  have HX6 := Lib.hid (HX5.out.chg HC6.out id)
  have HW6 := Lib.hid (HW5.out.keep fun _ hlt => HC6.out.block O hlt id)
  have HWB6 := Lib.hid (HWB5.out.keep fun _ hlt => HC6.out.block B hlt id)
  
  have HREPY6 := Lib.hid (Sh.rep_chg HREPY.out HC6.out fun _ _ h => h)
  clear HC1 HZL HX5 HW5 HWB5 HB5 HC6  HREPY
  have ha := (H.out.below HB6.out).drew
  have hx := HX6.out.drew
  have hy := HY6.out.drew
  have hb := HB6.out.drew
  have hb6 : Below w6.heap.size w6 w6.drew := (Below.refl _ w6).drew
  
  have hry := Sh.rep_below HREPY6.out hb6
  refine wp_region_segsV [([0, 1, 2, 6, 7, 3], [4]), ([5, 8, 9, 10, 11, 12, 13, 17, 18, 14], [15]), ([16, 19, 20, 21], [])] (by kernel_rfl) (by kernel_rfl) (by kernel_rfl) (by kernel_rfl)
    (SegV.mk (fun w' => Bs w' S (.slice A bs.length cap) bs ∧ Blk w' w3.heap.size 48 C.toArray ∧ Blk w' w5.heap.size 58 C2.toArray) (fun _ _ => trivial) ⟨ha, hx, hy⟩ ?_)
  (refine HoistK.yes (by rfl) (by kernel_rfl) ⟨?_, fun w' hSw => ?_, ?_⟩; rotate_left; (· go_simp; try with_reducible rfl); simp only [Act.put, List.setIfInBounds_toArray, List.getElem_toArray, List.getElem_cons_zero, List.set_cons_succ, List.set_cons_zero])
  (refine HoistK.yes (by rfl) (by kernel_rfl) ⟨.bool false, fun w' hSw => ?_, ?_⟩; (· have hne : (n == 0) = false := (by simpa using hn0); have hnn : (n != 0) = true := (by simpa using hn0); first | (go_simp; done) | (go_simp; rw [hne]) | (go_simp; rw [hnn]) | (go_simp; simp [hn0])); simp only [Act.put, List.setIfInBounds_toArray, List.getElem_toArray, List.getElem_cons_succ, List.getElem_cons_zero, List.set_cons_succ, List.set_cons_zero])
  (refine HoistK.yes (by rfl) (by kernel_rfl) ⟨?_, fun w' hSw => ?_, ?_⟩; rotate_left; (· go_simp; try with_reducible rfl); simp only [Act.put, List.setIfInBounds_toArray, List.getElem_toArray, List.getElem_cons_succ, List.getElem_cons_zero, List.set_cons_succ, List.set_cons_zero])
  (refine HoistK.no (by rfl) (by kernel_rfl) ?_; simp only [Act.put, List.setIfInBounds_toArray, List.getElem_toArray, List.getElem_cons_succ, List.getElem_cons_zero, List.set_cons_succ, List.set_cons_zero])
  (refine HoistK.no (by rfl) (by kernel_rfl) ?_; simp only [Act.put, List.setIfInBounds_toArray, List.getElem_toArray, List.getElem_cons_succ, List.getElem_cons_zero, List.set_cons_succ, List.set_cons_zero])
  (refine HoistK.no (by rfl) (by kernel_rfl) ?_; simp only [Act.put, List.setIfInBounds_toArray, List.getElem_toArray, List.getElem_cons_succ, List.getElem_cons_zero, List.set_cons_succ, List.set_cons_zero])
  refine HoistK.nil_ ?_
  simp only [opsAt, List.filterMap_cons, List.filterMap_nil, List.getElem?_toArray, List.getElem?_cons_succ, List.getElem?_cons_zero]
  refine EffS.cons_ fun _ hQ => ?_
  go_wp2_with fail
  refine hQ _ _ ⟨ha, hx, hy⟩ (EffS.nil_ (SegV.mk (fun w' => (Bs w' S (.slice A bs.length cap) bs ∧ Blk w' w3.heap.size 48 C.toArray ∧ Blk w' w5.heap.size 58 C2.toArray) ∧ True) (fun _ h => h.1) ⟨⟨ha, hx, hy⟩, trivial⟩ ?_))
  (refine HoistK.no (by rfl) (by kernel_rfl) ?_; simp only [Act.put, List.setIfInBounds_toArray, List.getElem_toArray, List.getElem_cons_succ, List.getElem_cons_zero, List.set_cons_succ, List.set_cons_zero])
  (refine HoistK.no (by rfl) (by kernel_rfl) ?_; simp only [Act.put, List.setIfInBounds_toArray, List.getElem_toArray, List.getElem_cons_succ, List.getElem_cons_zero, List.set_cons_succ, List.set_cons_zero])
  (refine HoistK.yes (by rfl) (by kernel_rfl) ⟨?_, fun w' hSw => ?_, ?_⟩; rotate_left; (· go_simp; try with_reducible rfl); simp only [Act.put, List.setIfInBounds_toArray, List.getElem_toArray, List.getElem_cons_succ, List.getElem_cons_zero, List.set_cons_succ, List.set_cons_zero])
  (refine HoistK.yes (by rfl) (by kernel_rfl) ⟨?_, fun w' hSw => ?_, ?_⟩; rotate_left; (· go_simp; try with_reducible rfl); simp only [Act.put, List.setIfInBounds_toArray, List.getElem_toArray, List.getElem_cons_succ, List.getElem_cons_zero, List.set_cons_succ, List.set_cons_zero])
  (refine HoistK.yes (by rfl) (by kernel_rfl) ⟨?_, fun w' hSw => ?_, ?_⟩; rotate_left; (· go_simp; try with_reducible rfl); simp only [Act.put, List.setIfInBounds_toArray, List.getElem_toArray, List.getElem_cons_succ, List.getElem_cons_zero, List.set_cons_succ, List.set_cons_zero])
  (refine HoistK.yes (by rfl) (by kernel_rfl) ⟨?_, fun w' hSw => ?_, ?_⟩; rotate_left; (· go_simp; try with_reducible rfl); simp only [Act.put, List.setIfInBounds_toArray, List.getElem_toArray, List.getElem_cons_succ, List.getElem_cons_zero, List.set_cons_succ, List.set_cons_zero])
  (refine HoistK.yes (by rfl) (by kernel_rfl) ⟨?_, fun w' hSw => ?_, ?_⟩; rotate_left; (· go_simp; try with_reducible rfl); simp only [Act.put, List.setIfInBounds_toArray, List.getElem_toArray, List.getElem_cons_succ, List.getElem_cons_zero, List.set_cons_succ, List.set_cons_zero])
  (refine HoistK.yes (by rfl) (by kernel_rfl) ⟨?_, fun w' hSw => ?_, ?_⟩; rotate_left; (· go_simp; try with_reducible rfl); simp only [Act.put, List.setIfInBounds_toArray, List.getElem_toArray, List.getElem_cons_succ, List.getElem_cons_zero, List.set_cons_succ, List.set_cons_zero])
  (refine HoistK.yes (by rfl) (by kernel_rfl) ⟨?_, fun w' hSw => ?_, ?_⟩; rotate_left; (· have e1 := run_str hSw.1.1 Tryz.underlying50 Tryz.underlying5 Tryz.underlying9; go_simp; try with_reducible rfl); simp only [Act.put, List.setIfInBounds_toArray, List.getElem_toArray, List.getElem_cons_succ, List.getElem_cons_zero, List.set_cons_succ, List.set_cons_zero])
  (refine HoistK.load (by rfl) (by kernel_rfl) 58 _ rfl w5.heap.size 0 rfl C2 _ (fun w' hw => hw.1.2.2.range) Tryz.underlying58 rfl HCJ.out ?_; simp only [Act.put, List.setIfInBounds_toArray, List.getElem_toArray, List.getElem_cons_succ, List.getElem_cons_zero, List.set_cons_succ, List.set_cons_zero])
  refine HoistK.nil_ ?_
  simp only [opsAt, List.filterMap_cons, List.filterMap_nil, List.getElem?_toArray, List.getElem?_cons_succ, List.getElem?_cons_zero]
  refine EffS.cons_ fun _ hQ => ?_
  go_wp2_with fail
  refine (fact_any _ hry HLY.out).mono ?_
  rintro e w8 ⟨v8, rfl, f8⟩
  rw [HEY.out] at f8
  obtain ⟨A8, c8, rfl⟩ := f8.1.form
  have hx8 := hx.below f8.2 hx.lt
  have hy8 := hy.below f8.2 hy.lt
  have hb8 := hb6.trans (f8.2.mono hb6.size)
  have ha8 := ha.below f8.2
  
  have h88 := f8.1.sub (T := fun _ => True) fun _ _ _ => trivial
  clear f8
  go_wp2_with fail
  refine hQ _ _ ⟨⟨ha8, hx8, hy8⟩, trivial⟩ (EffS.nil_ (SegV.mk (fun w' => ((Bs w' S (.slice A bs.length cap) bs ∧ Blk w' w3.heap.size 48 C.toArray ∧ Blk w' w5.heap.size 58 C2.toArray) ∧ True) ∧ Bs w' (fun _ => True) (.slice A8 bs.length c8) bs) (fun _ h => h.1) ⟨⟨⟨ha8, hx8, hy8⟩, trivial⟩, h88⟩ ?_))
  (refine HoistK.yes (by rfl) (by kernel_rfl) ⟨?_, fun w' hSw => ?_, ?_⟩; rotate_left; (· have e1 := run_str hSw.2 Tryz.underlying50 Tryz.underlying5 Tryz.underlying9; go_simp; try with_reducible rfl); simp only [Act.put, List.setIfInBounds_toArray, List.getElem_toArray, List.getElem_cons_succ, List.getElem_cons_zero, List.set_cons_succ, List.set_cons_zero])
  (refine HoistK.yes (by rfl) (by kernel_rfl) ⟨?_, fun w' hSw => ?_, ?_⟩; rotate_left; (· go_simp; try with_reducible rfl); simp only [Act.put, List.setIfInBounds_toArray, List.getElem_toArray, List.getElem_cons_succ, List.getElem_cons_zero, List.set_cons_succ, List.set_cons_zero])
  (refine HoistK.yes (by rfl) (by kernel_rfl) ⟨?_, fun w' hSw => ?_, ?_⟩; rotate_left; (· go_simp; try with_reducible rfl); simp only [Act.put, List.setIfInBounds_toArray, List.getElem_toArray, List.getElem_cons_succ, List.getElem_cons_zero, List.set_cons_succ, List.set_cons_zero])
  (refine HoistK.yes (by rfl) (by kernel_rfl) ⟨?_, fun w' hSw => ?_, ?_⟩; rotate_left; (· go_simp; try with_reducible rfl); simp only [Act.put, List.setIfInBounds_toArray, List.getElem_toArray, List.getElem_cons_succ, List.getElem_cons_zero, List.set_cons_succ, List.set_cons_zero])
  refine HoistK.nil_ ?_
  simp only [opsAt, List.filterMap_nil, List.getElem?_toArray]
  refine EffS.nil_ fun _ hQ => ?_
  have HY8 := Lib.hid hy8
  have HX8 := Lib.hid hx8
  have HB68 := Lib.hid hb8
  generalize w8 = W8 at *
  have HWB8 := Lib.hid (HWB6.out.keep fun _ hlt => HB68.out.block B hlt)
  have HW8 := Lib.hid (HW6.out.keep fun _ hlt => HB68.out.block O hlt)
  have HA8 := Lib.hid ha8
  
  have HB8 := Lib.hid (HB6.out.trans (HB68.out.mono HB6.out.size))
  have HCV := Lib.hid (show W8.cell? ⟨w5.heap.size, 70, none⟩ = some (.slice A1 N c1) by rw [HY8.out.cell]; simpa using HV1.out)
  have hcv := HCV.out
  have hz68 := HB68.out.size
  clear hx8 hy8 ha8 HWB6 HW6 HX6 HY6 HB6  HREPY6
  go_wp2_with fail
  clear hcv
  have hN63 := HN63.out
  go_loopw [50] (fun i wr => ∃ k : Nat, k ≤ N ∧ i = .int .i64 k ∧ Hid (Wrow wr N B off A1) ∧ Chg (fun b => 0 < N ∧ b = B) W8 wr) (fun i _ => N - (intOf i).toNat)
  case atStart => exact ⟨0, Nat.zero_le _, rfl, HWB8, Chg.refl _ _⟩
  case round =>
    obtain ⟨k, hk, rfl, hW, hch⟩ := hrel
    have hcv : wr.cell? ⟨w5.heap.size, 70, none⟩ = some (.slice A1 N c1) := (World.cell?_of_block (a := ⟨w5.heap.size, 70, none⟩) (hch.block w5.heap.size HY8.out.lt (fun h => by have := HBB.out h.1; have := h.2; omega))).trans HCV.out
    by_cases hlt : k < N
    · obtain ⟨hA, hz, y1, hy1, hc, hw⟩ := hW.out.at_ hlt
      subst hA
      obtain ⟨z, hz2, hze⟩ := u8_wrap_nat ((y1 : Int) + 1)
      have HWZ := Lib.hid (hw z hz2)
      clear hw
      go_wp2_with fail
      refine ⟨⟨k + 1, by omega, by push_cast; rfl, Lib.hid ?_, hch.setOf ⟨by omega, rfl⟩ _ _⟩, by simp only [intOf]; omega⟩
      first | (rw [hze]; exact HWZ.out) | exact HWZ.out
    · have HX9 := Lib.hid (HX8.out.chg hch fun h => by have := HBB.out h.1; have := h.2; omega)
      have HW9 := Lib.hid (HW8.out.keep fun h0 hlt => hch.block O hlt fun h => by have := HBB.out h.1; have := HOB.out h0; have := h.2; omega)
      have HA9 := Lib.hid (HA8.out.chg hch fun b hb h => by have := HBB.out h.1; have := HS.out b hb; have := h.2; omega)
      
      have HB9 := Lib.hid (HB8.out.trans (hch.below HB8.out.size fun b h => by have := HBB.out h.1; have := h.2; omega))
      clear hW hcv hch hk hN63 HX8 HW8 HA8 HB8 HWB8 HCV HY8 HB68 
      go_wp2_with fail
      generalize wr = W9 at *
      have hbl := HL.out
      go_loopw [63] (fun i wr => ∃ k : Nat, k ≤ bs.length ∧ i = .int .i64 k ∧ Hid (Wrow wr bs.length O oo A2) ∧ Chg (fun b => 0 < bs.length ∧ b = O) W9 wr) (fun i _ => bs.length - (intOf i).toNat)
      case atStart => exact ⟨0, Nat.zero_le _, rfl, HW9, Chg.refl _ _⟩
      case round =>
        obtain ⟨k, hk, rfl, hW, hch⟩ := hrel
        by_cases hlt : k < bs.length
        · obtain ⟨hA, hz, y1, hy1, hc, hw⟩ := hW.out.at_ hlt
          subst hA
          obtain ⟨z, hz2, hze⟩ := u8_xor85 y1 hy1
          have HWZ := Lib.hid (hw z hz2)
          clear hw
          go_wp2_with fail
          refine ⟨⟨k + 1, by omega, by push_cast; rfl, Lib.hid ?_, hch.setOf ⟨by omega, rfl⟩ _ _⟩, by simp only [intOf]; omega⟩
          first | (rw [hze]; exact HWZ.out) | exact HWZ.out
        · have hx := (HX9.out.chg hch fun h => by have := HOB.out h.1; have := h.2; omega).drew
          have ha := (HA9.out.chg hch fun b hb h => by have := HOB.out h.1; have := HS.out b hb; have := h.2; omega).drew
          
          have hb := (HB9.out.trans (hch.below HB9.out.size fun b h => by have := HOB.out h.1; have := h.2; omega)).drew
          clear hW hch HX9 HW9 HA9 HB9 
          go_wp2_with fail
          refine wp_region_segsV [([0, 1, 2, 6, 7, 3], [4]), ([5, 8, 9], [10])] (by kernel_rfl) (by kernel_rfl) (by kernel_rfl) (by kernel_rfl) (SegV.mk (fun w' => Bs w' S (.slice A bs.length cap) bs ∧ Blk w' w3.heap.size 48 C.toArray) (fun _ _ => trivial) ⟨ha, hx⟩ ?_)
          (refine HoistK.yes (by rfl) (by kernel_rfl) ⟨?_, fun w' hSw => ?_, ?_⟩; rotate_left; (· go_simp; try with_reducible rfl); simp only [Act.put, List.setIfInBounds_toArray, List.getElem_toArray, List.getElem_cons_zero, List.set_cons_succ, List.set_cons_zero])
          (refine HoistK.yes (by rfl) (by kernel_rfl) ⟨.bool true, fun w' hSw => ?_, ?_⟩; (· have hne : (n == 0) = false := (by simpa using hn0); have hnn : (n != 0) = true := (by simpa using hn0); first | (go_simp; done) | (go_simp; rw [hne]) | (go_simp; rw [hnn]) | (go_simp; simp [hn0])); simp only [Act.put, List.setIfInBounds_toArray, List.getElem_toArray, List.getElem_cons_succ, List.getElem_cons_zero, List.set_cons_succ, List.set_cons_zero])
          (refine HoistK.yes (by rfl) (by kernel_rfl) ⟨?_, fun w' hSw => ?_, ?_⟩; rotate_left; (· go_simp; try with_reducible rfl); simp only [Act.put, List.setIfInBounds_toArray, List.getElem_toArray, List.getElem_cons_succ, List.getElem_cons_zero, List.set_cons_succ, List.set_cons_zero])
          (refine HoistK.no (by rfl) (by kernel_rfl) ?_; simp only [Act.put, List.setIfInBounds_toArray, List.getElem_toArray, List.getElem_cons_succ, List.getElem_cons_zero, List.set_cons_succ, List.set_cons_zero])
          (refine HoistK.no (by rfl) (by kernel_rfl) ?_; simp only [Act.put, List.setIfInBounds_toArray, List.getElem_toArray, List.getElem_cons_succ, List.getElem_cons_zero, List.set_cons_succ, List.set_cons_zero])
          (refine HoistK.no (by rfl) (by kernel_rfl) ?_; simp only [Act.put, List.setIfInBounds_toArray, List.getElem_toArray, List.getElem_cons_succ, List.getElem_cons_zero, List.set_cons_succ, List.set_cons_zero])
          refine HoistK.nil_ ?_
          simp only [opsAt, List.filterMap_cons, List.filterMap_nil, List.getElem?_toArray, List.getElem?_cons_succ, List.getElem?_cons_zero]
          refine EffS.cons_ fun _ hQ => ?_
          go_wp2_with fail
          refine hQ _ _ ⟨ha, hx⟩ (EffS.nil_ (SegV.mk (fun w' => (Bs w' S (.slice A bs.length cap) bs ∧ Blk w' w3.heap.size 48 C.toArray) ∧ True) (fun _ h => h.1) ⟨⟨ha, hx⟩, trivial⟩ ?_))
          (refine HoistK.no (by rfl) (by kernel_rfl) ?_; simp only [Act.put, List.setIfInBounds_toArray, List.getElem_toArray, List.getElem_cons_succ, List.getElem_cons_zero, List.set_cons_succ, List.set_cons_zero])
          (refine HoistK.no (by rfl) (by kernel_rfl) ?_; simp only [Act.put, List.setIfInBounds_toArray, List.getElem_toArray, List.getElem_cons_succ, List.getElem_cons_zero, List.set_cons_succ, List.set_cons_zero])
          (refine HoistK.yes (by rfl) (by kernel_rfl) ⟨?_, fun w' hSw => ?_, ?_⟩; rotate_left; (· go_simp; try with_reducible rfl); simp only [Act.put, List.setIfInBounds_toArray, List.getElem_toArray, List.getElem_cons_succ, List.getElem_cons_zero, List.set_cons_succ, List.set_cons_zero])
          refine HoistK.nil_ ?_
          simp only [opsAt, List.filterMap_cons, List.filterMap_nil, List.getElem?_toArray, List.getElem?_cons_succ, List.getElem?_cons_zero]
          refine EffS.cons_ fun _ hQ => ?_
          go_wp2_with fail
          refine hQ _ _ ⟨⟨ha, hx⟩, trivial⟩ (EffS.nil_ fun _ hQ => ?_)
          go_wp2_with fail
          go_ret
          exact ⟨rfl, hb⟩

end Go.Proofs.YtjjgmkfkmckkoabGreatDoor

/- CodecBack's walk: neither. Printed by genBack.py. -/
namespace Go.Proofs.YtjjgmkfkmckkoabGreatDoor
open Go.RowKit Go.Maps
attribute [-simp] Tryz.isAgg24 Tryz.typeInfo24 Tryz.isAgg48 Tryz.typeInfo48 Tryz.isAgg58 Tryz.typeInfo58

set_option maxHeartbeats 16000000 in
set_option maxRecDepth 100000 in
theorem back_ff (w : World) {S : Nat → Prop} {v : Value} {bs : List UInt8} {sent : Value} (h : Bs w S v bs) (hS : ∀ b, S b → b < w.heap.size) (hp : Pk w sent)
    (hno : 262144 < bs.length ∨ tMessage.dec bs = none) (hno2 : 262144 < bs.length ∨ tFact.dec bs = none) :
    Calls Tryz.prog 5 #[v] w fun e w' => e = .returned (.bool true) ∧ Below w.heap.size w w' := by
  obtain ⟨A, cap, rfl⟩ := h.form
  have HAW := Lib.hid (awake_any w hp)
  have H := Lib.hid h
  have HS := Lib.hid hS
  have HL := Lib.hid (show bs.length ≤ 140737488355328 from h.2)
  have HP := Lib.hid hp
  have hl := h.2
  have H63 := Lib.hid (show 0 + bs.length ≤ maxLen ∧ (0 + bs.length) * 1 ≤ 140737488355328 from ⟨by simp only [maxLen]; omega, by omega⟩)
  have HNO := Lib.hid hno
  have HNO2 := Lib.hid hno2
  
  clear h hS hl hp hno hno2 
  go_enter Tryz.func5, Tryz.ntmps5
  go_wp2_with fail
  refine HAW.out.mono ?_
  rintro e w1 ⟨rfl, hb1⟩
  have HB1 := Lib.hid hb1
  have HA1 := Lib.hid (H.out.below hb1)
  clear hb1 HAW
  go_wp2_with (at_builtin; refine wpList_app _ rfl _ _ _ rfl Tryz.underlying50 info_u8 rfl (by decide) (Own.empty w1 5 1) rfl (HA1.out.1.below ((Below.refl _ w1).alloc (Nat.le_refl _) _)) rfl (u8s_one _) H63.out.1 H63.out.2 ?_; intro v2 w2 ho2 hc2 hn2 hat2; clear hn2; have HO := Lib.hid ho2; clear ho2; have HC := Lib.hid hc2; clear hc2; have HAT := Lib.hid hat2; clear hat2; obtain ⟨A2, c2, hv2⟩ := HO.out.form; rw [Nat.zero_add] at hv2; subst hv2)
  have ho := HO.out
  rw [Nat.zero_add, List.nil_append] at ho
  have hrow : Bs w2 (Nw w1.heap.size w2) (.slice A2 bs.length c2) bs := ⟨Cs.of_own ho fun k hk => ⟨by
    rcases HAT.out with e | e
    · rw [e] at hk; simp [Value.ownBlock] at hk; omega
    · rw [e] at hk; injection hk with hk; simp at hk; omega, own_th ho hk⟩, H.out.2⟩
  have hb12 : Below w1.heap.size w1 w2 := (((Chg.refl (fun b => b = w1.heap.size) w1).alloc _).trans HC.out fun b h => .inl (by simp [Value.ownBlock] at h; exact h.symm)).below (Nat.le_refl _) fun b h => Nat.le_of_eq h.symm
  obtain ⟨O, oo, hO, hwo⟩ := Wrow.of_bs hrow
  have HOB := Lib.hid hO
  have HB2 := Lib.hid (HB1.out.trans (hb12.mono HB1.out.size))
  have HR2 := Lib.hid hrow
  have HW2 := Lib.hid hwo
  have HRM := Lib.hid (ReadMessage_anyN w2 hrow (HP.out.below HB2.out))
  have hz12 := hb12.size
  have hz01 := HB1.out.size
  clear HO HC HAT ho hrow hb12 hwo HA1 hO
  go_wp2_with fail
  refine HRM.out.mono ?_
  rintro e w3 ⟨hb3, C, n, rfl, hCl, hC1, hn⟩
  have hz23 := hb3.size
  have HB3 := Lib.hid (HB2.out.trans (hb3.mono HB2.out.size))
  have HR3 := Lib.hid (HR2.out.below hb3)
  have HW3 := Lib.hid (HW2.out.keep fun _ hlt => hb3.block O hlt)
  have HC1 := Lib.hid hC1
  have HCI := Lib.hid (show (Tryz.prog.info? 48).map (·.size) = some C.length from by rw [hCl]; kernel_rfl)
  have HZL := Lib.hid (show zFMessage.length = C.length from by rw [hCl]; rfl)
  have hn0 : ¬ n = 0 := by
    rcases hn with ⟨_, h, _⟩ | ⟨_, ⟨y, h1, _⟩ | ⟨_, h, _⟩⟩
    · omega
    · rcases HNO.out with h | h
      · omega
      · rw [h] at h1; cases h1
    · omega
  clear hCl hC1 hn hb3 HRM HR2 HW2 HB2
  go_wp2_with (refine wpList_store_blk (cs0 := zFMessage) (cs := C) rfl 48 _ _ rfl (Blk.new w3 _ _) rfl rfl HZL.out HCI.out HC1.out ?_; intro w4 hy4 hc4; have HX4 := Lib.hid hy4; have HC4 := Lib.hid (show Chg (fun _ => False) w3 w4 from ((Chg.refl _ w3).alloc _).trans hc4 fun b h => .inr (Nat.le_of_eq h.symm)); clear hy4 hc4)
  have hz34 : w3.heap.size + 1 ≤ w4.heap.size := by have := HX4.out.lt; omega
  have HB4 := Lib.hid (HB3.out.trans (HC4.out.below HB3.out.size fun b h => h.elim))
  have HR4 := Lib.hid (HR3.out.chg HC4.out fun _ _ h => h)
  have HW4 := Lib.hid (HW3.out.keep fun _ hlt => HC4.out.block O hlt id)
  have HRF := Lib.hid (ReadFact_anyN w4 HR4.out (HP.out.below HB4.out))
  
  clear HC1 HZL HR3 HW3 HB3 HC4 
  go_wp2_with fail
  refine HRF.out.mono ?_
  rintro e w5 ⟨hb5, C2, n2, rfl, hCl, hC1, hn⟩
  have hz45 := hb5.size
  have HB5 := Lib.hid (HB4.out.trans (hb5.mono HB4.out.size))
  have HX5 := Lib.hid (HX4.out.below hb5 HX4.out.lt)
  have HW5 := Lib.hid (HW4.out.keep fun _ hlt => hb5.block O hlt)
  have HC1 := Lib.hid hC1
  have HCJ := Lib.hid (show (Tryz.prog.info? 58).map (·.size) = some C2.length from by rw [hCl]; kernel_rfl)
  have HZL := Lib.hid (show zFFact.length = C2.length from by rw [hCl]; rfl)
  
  obtain ⟨hn2, hz⟩ : ¬ n2 = 0 ∧ C2 = zFFact := by
    rcases hn with ⟨_, h, h'⟩ | ⟨_, ⟨y, h1, _⟩ | ⟨_, h, h'⟩⟩
    · exact ⟨by omega, h'⟩
    · rcases HNO2.out with h | h
      · omega
      · rw [h] at h1; cases h1
    · exact ⟨by omega, h'⟩
  obtain ⟨A1, c1, N, B, off, hv1, hB, hwb, hN63⟩ : ∃ (A1 : Option Addr) (c1 N B off : Nat), C2[70]? = some (.slice A1 N c1) ∧ (0 < N → w4.heap.size ≤ B ∧ B < w5.heap.size) ∧ Wrow w5 N B off A1 ∧ N ≤ 140737488355328 :=
    ⟨none, 0, 0, 0, 0, by rw [hz]; rfl, fun h => absurd h (Nat.lt_irrefl _), Wrow.zero_ _ _ _ _, by omega⟩
  have HN63 := Lib.hid hN63
  clear hz hN63
  have HV1 := Lib.hid hv1
  have HBB := Lib.hid hB
  have HWB5 := Lib.hid hwb
  clear hCl hC1 hn hb5 HRF HX4 HR4 HW4 HB4 hv1 hB hwb 
  go_wp2_with (refine wpList_store_blk (cs0 := zFFact) (cs := C2) rfl 58 _ _ rfl (Blk.new w5 _ _) rfl rfl HZL.out HCJ.out HC1.out ?_; intro w6 hy6 hc6; have HY6 := Lib.hid hy6; have HC6 := Lib.hid (show Chg (fun _ => False) w5 w6 from ((Chg.refl _ w5).alloc _).trans hc6 fun b h => .inr (Nat.le_of_eq h.symm)); clear hy6 hc6)
  have hz56 : w5.heap.size + 1 ≤ w6.heap.size := by have := HY6.out.lt; omega
  have HB6 := Lib.hid (HB5.out.trans (HC6.out.below HB5.out.size fun b h => h.elim))
  have HX6 := Lib.hid (HX5.out.chg HC6.out id)
  have HW6 := Lib.hid (HW5.out.keep fun _ hlt => HC6.out.block O hlt id)
  have HWB6 := Lib.hid (HWB5.out.keep fun _ hlt => HC6.out.block B hlt id)
  
  
  clear HC1 HZL HX5 HW5 HWB5 HB5 HC6  
  have ha := (H.out.below HB6.out).drew
  have hx := HX6.out.drew
  have hy := HY6.out.drew
  have hb := HB6.out.drew
  have hb6 : Below w6.heap.size w6 w6.drew := (Below.refl _ w6).drew
  
  
  refine wp_region_segsV [([0, 1, 2, 6, 7, 3], [4]), ([5, 8, 9, 10, 11, 12, 13, 17, 18, 14], [15]), ([16, 19, 20, 21], [])] (by kernel_rfl) (by kernel_rfl) (by kernel_rfl) (by kernel_rfl)
    (SegV.mk (fun w' => Bs w' S (.slice A bs.length cap) bs ∧ Blk w' w3.heap.size 48 C.toArray ∧ Blk w' w5.heap.size 58 C2.toArray) (fun _ _ => trivial) ⟨ha, hx, hy⟩ ?_)
  (refine HoistK.yes (by rfl) (by kernel_rfl) ⟨?_, fun w' hSw => ?_, ?_⟩; rotate_left; (· go_simp; try with_reducible rfl); simp only [Act.put, List.setIfInBounds_toArray, List.getElem_toArray, List.getElem_cons_zero, List.set_cons_succ, List.set_cons_zero])
  (refine HoistK.yes (by rfl) (by kernel_rfl) ⟨.bool false, fun w' hSw => ?_, ?_⟩; (· have hne : (n == 0) = false := (by simpa using hn0); have hnn : (n != 0) = true := (by simpa using hn0); first | (go_simp; done) | (go_simp; rw [hne]) | (go_simp; rw [hnn]) | (go_simp; simp [hn0])); simp only [Act.put, List.setIfInBounds_toArray, List.getElem_toArray, List.getElem_cons_succ, List.getElem_cons_zero, List.set_cons_succ, List.set_cons_zero])
  (refine HoistK.yes (by rfl) (by kernel_rfl) ⟨?_, fun w' hSw => ?_, ?_⟩; rotate_left; (· go_simp; try with_reducible rfl); simp only [Act.put, List.setIfInBounds_toArray, List.getElem_toArray, List.getElem_cons_succ, List.getElem_cons_zero, List.set_cons_succ, List.set_cons_zero])
  (refine HoistK.no (by rfl) (by kernel_rfl) ?_; simp only [Act.put, List.setIfInBounds_toArray, List.getElem_toArray, List.getElem_cons_succ, List.getElem_cons_zero, List.set_cons_succ, List.set_cons_zero])
  (refine HoistK.no (by rfl) (by kernel_rfl) ?_; simp only [Act.put, List.setIfInBounds_toArray, List.getElem_toArray, List.getElem_cons_succ, List.getElem_cons_zero, List.set_cons_succ, List.set_cons_zero])
  (refine HoistK.no (by rfl) (by kernel_rfl) ?_; simp only [Act.put, List.setIfInBounds_toArray, List.getElem_toArray, List.getElem_cons_succ, List.getElem_cons_zero, List.set_cons_succ, List.set_cons_zero])
  refine HoistK.nil_ ?_
  simp only [opsAt, List.filterMap_cons, List.filterMap_nil, List.getElem?_toArray, List.getElem?_cons_succ, List.getElem?_cons_zero]
  refine EffS.cons_ fun _ hQ => ?_
  go_wp2_with fail
  refine hQ _ _ ⟨ha, hx, hy⟩ (EffS.nil_ (SegV.mk (fun w' => (Bs w' S (.slice A bs.length cap) bs ∧ Blk w' w3.heap.size 48 C.toArray ∧ Blk w' w5.heap.size 58 C2.toArray) ∧ True) (fun _ h => h.1) ⟨⟨ha, hx, hy⟩, trivial⟩ ?_))
  (refine HoistK.no (by rfl) (by kernel_rfl) ?_; simp only [Act.put, List.setIfInBounds_toArray, List.getElem_toArray, List.getElem_cons_succ, List.getElem_cons_zero, List.set_cons_succ, List.set_cons_zero])
  (refine HoistK.no (by rfl) (by kernel_rfl) ?_; simp only [Act.put, List.setIfInBounds_toArray, List.getElem_toArray, List.getElem_cons_succ, List.getElem_cons_zero, List.set_cons_succ, List.set_cons_zero])
  (refine HoistK.yes (by rfl) (by kernel_rfl) ⟨?_, fun w' hSw => ?_, ?_⟩; rotate_left; (· go_simp; try with_reducible rfl); simp only [Act.put, List.setIfInBounds_toArray, List.getElem_toArray, List.getElem_cons_succ, List.getElem_cons_zero, List.set_cons_succ, List.set_cons_zero])
  (refine HoistK.yes (by rfl) (by kernel_rfl) ⟨?_, fun w' hSw => ?_, ?_⟩; rotate_left; (· go_simp; try with_reducible rfl); simp only [Act.put, List.setIfInBounds_toArray, List.getElem_toArray, List.getElem_cons_succ, List.getElem_cons_zero, List.set_cons_succ, List.set_cons_zero])
  (refine HoistK.yes (by rfl) (by kernel_rfl) ⟨?_, fun w' hSw => ?_, ?_⟩; rotate_left; (· go_simp; try with_reducible rfl); simp only [Act.put, List.setIfInBounds_toArray, List.getElem_toArray, List.getElem_cons_succ, List.getElem_cons_zero, List.set_cons_succ, List.set_cons_zero])
  (refine HoistK.yes (by rfl) (by kernel_rfl) ⟨.bool false, fun w' hSw => ?_, ?_⟩; (· have hne : (n2 == 0) = false := (by simpa using hn2); have hnn : (n2 != 0) = true := (by simpa using hn2); first | (go_simp; done) | (go_simp; rw [hne]) | (go_simp; rw [hnn]) | (go_simp; simp [hn2])); simp only [Act.put, List.setIfInBounds_toArray, List.getElem_toArray, List.getElem_cons_succ, List.getElem_cons_zero, List.set_cons_succ, List.set_cons_zero])
  (refine HoistK.yes (by rfl) (by kernel_rfl) ⟨?_, fun w' hSw => ?_, ?_⟩; rotate_left; (· go_simp; try with_reducible rfl); simp only [Act.put, List.setIfInBounds_toArray, List.getElem_toArray, List.getElem_cons_succ, List.getElem_cons_zero, List.set_cons_succ, List.set_cons_zero])
  (refine HoistK.no (by rfl) (by kernel_rfl) ?_; simp only [Act.put, List.setIfInBounds_toArray, List.getElem_toArray, List.getElem_cons_succ, List.getElem_cons_zero, List.set_cons_succ, List.set_cons_zero])
  (refine HoistK.no (by rfl) (by kernel_rfl) ?_; simp only [Act.put, List.setIfInBounds_toArray, List.getElem_toArray, List.getElem_cons_succ, List.getElem_cons_zero, List.set_cons_succ, List.set_cons_zero])
  (refine HoistK.no (by rfl) (by kernel_rfl) ?_; simp only [Act.put, List.setIfInBounds_toArray, List.getElem_toArray, List.getElem_cons_succ, List.getElem_cons_zero, List.set_cons_succ, List.set_cons_zero])
  refine HoistK.nil_ ?_
  simp only [opsAt, List.filterMap_cons, List.filterMap_nil, List.getElem?_toArray, List.getElem?_cons_succ, List.getElem?_cons_zero]
  refine EffS.cons_ fun _ hQ => ?_
  go_wp2_with fail
  refine hQ _ _ ⟨⟨ha, hx, hy⟩, trivial⟩ (EffS.nil_ (SegV.mk (fun w' => ((Bs w' S (.slice A bs.length cap) bs ∧ Blk w' w3.heap.size 48 C.toArray ∧ Blk w' w5.heap.size 58 C2.toArray) ∧ True) ∧ True) (fun _ h => h.1) ⟨⟨⟨ha, hx, hy⟩, trivial⟩, trivial⟩ ?_))
  (refine HoistK.no (by rfl) (by kernel_rfl) ?_; simp only [Act.put, List.setIfInBounds_toArray, List.getElem_toArray, List.getElem_cons_succ, List.getElem_cons_zero, List.set_cons_succ, List.set_cons_zero])
  (refine HoistK.no (by rfl) (by kernel_rfl) ?_; simp only [Act.put, List.setIfInBounds_toArray, List.getElem_toArray, List.getElem_cons_succ, List.getElem_cons_zero, List.set_cons_succ, List.set_cons_zero])
  (refine HoistK.yes (by rfl) (by kernel_rfl) ⟨?_, fun w' hSw => ?_, ?_⟩; rotate_left; (· go_simp; try with_reducible rfl); simp only [Act.put, List.setIfInBounds_toArray, List.getElem_toArray, List.getElem_cons_succ, List.getElem_cons_zero, List.set_cons_succ, List.set_cons_zero])
  (refine HoistK.yes (by rfl) (by kernel_rfl) ⟨?_, fun w' hSw => ?_, ?_⟩; rotate_left; (· go_simp; try with_reducible rfl); simp only [Act.put, List.setIfInBounds_toArray, List.getElem_toArray, List.getElem_cons_succ, List.getElem_cons_zero, List.set_cons_succ, List.set_cons_zero])
  refine HoistK.nil_ ?_
  simp only [opsAt, List.filterMap_nil, List.getElem?_toArray]
  refine EffS.nil_ fun _ hQ => ?_
  have HY8 := Lib.hid hy
  have HX8 := Lib.hid hx
  have HB68 := Lib.hid hb6
  generalize w6.drew = W8 at *
  have HWB8 := Lib.hid (HWB6.out.keep fun _ hlt => HB68.out.block B hlt)
  have HW8 := Lib.hid (HW6.out.keep fun _ hlt => HB68.out.block O hlt)
  have HA8 := Lib.hid ha
  
  have HB8 := Lib.hid (HB6.out.trans (HB68.out.mono HB6.out.size))
  have HCV := Lib.hid (show W8.cell? ⟨w5.heap.size, 70, none⟩ = some (.slice A1 N c1) by rw [HY8.out.cell]; simpa using HV1.out)
  have hcv := HCV.out
  have hz68 := HB68.out.size
  clear hx hy ha HWB6 HW6 HX6 HY6 HB6  
  go_wp2_with fail
  clear hcv
  have hN63 := HN63.out
  go_loopw [50] (fun i wr => ∃ k : Nat, k ≤ N ∧ i = .int .i64 k ∧ Hid (Wrow wr N B off A1) ∧ Chg (fun b => 0 < N ∧ b = B) W8 wr) (fun i _ => N - (intOf i).toNat)
  case atStart => exact ⟨0, Nat.zero_le _, rfl, HWB8, Chg.refl _ _⟩
  case round =>
    obtain ⟨k, hk, rfl, hW, hch⟩ := hrel
    have hcv : wr.cell? ⟨w5.heap.size, 70, none⟩ = some (.slice A1 N c1) := (World.cell?_of_block (a := ⟨w5.heap.size, 70, none⟩) (hch.block w5.heap.size HY8.out.lt (fun h => by have := HBB.out h.1; have := h.2; omega))).trans HCV.out
    by_cases hlt : k < N
    · obtain ⟨hA, hz, y1, hy1, hc, hw⟩ := hW.out.at_ hlt
      subst hA
      obtain ⟨z, hz2, hze⟩ := u8_wrap_nat ((y1 : Int) + 1)
      have HWZ := Lib.hid (hw z hz2)
      clear hw
      go_wp2_with fail
      refine ⟨⟨k + 1, by omega, by push_cast; rfl, Lib.hid ?_, hch.setOf ⟨by omega, rfl⟩ _ _⟩, by simp only [intOf]; omega⟩
      first | (rw [hze]; exact HWZ.out) | exact HWZ.out
    · have HX9 := Lib.hid (HX8.out.chg hch fun h => by have := HBB.out h.1; have := h.2; omega)
      have HW9 := Lib.hid (HW8.out.keep fun h0 hlt => hch.block O hlt fun h => by have := HBB.out h.1; have := HOB.out h0; have := h.2; omega)
      have HA9 := Lib.hid (HA8.out.chg hch fun b hb h => by have := HBB.out h.1; have := HS.out b hb; have := h.2; omega)
      
      have HB9 := Lib.hid (HB8.out.trans (hch.below HB8.out.size fun b h => by have := HBB.out h.1; have := h.2; omega))
      clear hW hcv hch hk hN63 HX8 HW8 HA8 HB8 HWB8 HCV HY8 HB68 
      go_wp2_with fail
      generalize wr = W9 at *
      have hbl := HL.out
      go_loopw [63] (fun i wr => ∃ k : Nat, k ≤ bs.length ∧ i = .int .i64 k ∧ Hid (Wrow wr bs.length O oo A2) ∧ Chg (fun b => 0 < bs.length ∧ b = O) W9 wr) (fun i _ => bs.length - (intOf i).toNat)
      case atStart => exact ⟨0, Nat.zero_le _, rfl, HW9, Chg.refl _ _⟩
      case round =>
        obtain ⟨k, hk, rfl, hW, hch⟩ := hrel
        by_cases hlt : k < bs.length
        · obtain ⟨hA, hz, y1, hy1, hc, hw⟩ := hW.out.at_ hlt
          subst hA
          obtain ⟨z, hz2, hze⟩ := u8_xor85 y1 hy1
          have HWZ := Lib.hid (hw z hz2)
          clear hw
          go_wp2_with fail
          refine ⟨⟨k + 1, by omega, by push_cast; rfl, Lib.hid ?_, hch.setOf ⟨by omega, rfl⟩ _ _⟩, by simp only [intOf]; omega⟩
          first | (rw [hze]; exact HWZ.out) | exact HWZ.out
        · have hx := (HX9.out.chg hch fun h => by have := HOB.out h.1; have := h.2; omega).drew
          have ha := (HA9.out.chg hch fun b hb h => by have := HOB.out h.1; have := HS.out b hb; have := h.2; omega).drew
          
          have hb := (HB9.out.trans (hch.below HB9.out.size fun b h => by have := HOB.out h.1; have := h.2; omega)).drew
          clear hW hch HX9 HW9 HA9 HB9 
          go_wp2_with fail
          refine wp_region_segsV [([0, 1, 2, 6, 7, 3], [4]), ([5, 8, 9], [10])] (by kernel_rfl) (by kernel_rfl) (by kernel_rfl) (by kernel_rfl) (SegV.mk (fun w' => Bs w' S (.slice A bs.length cap) bs ∧ Blk w' w3.heap.size 48 C.toArray) (fun _ _ => trivial) ⟨ha, hx⟩ ?_)
          (refine HoistK.yes (by rfl) (by kernel_rfl) ⟨?_, fun w' hSw => ?_, ?_⟩; rotate_left; (· go_simp; try with_reducible rfl); simp only [Act.put, List.setIfInBounds_toArray, List.getElem_toArray, List.getElem_cons_zero, List.set_cons_succ, List.set_cons_zero])
          (refine HoistK.yes (by rfl) (by kernel_rfl) ⟨.bool true, fun w' hSw => ?_, ?_⟩; (· have hne : (n == 0) = false := (by simpa using hn0); have hnn : (n != 0) = true := (by simpa using hn0); first | (go_simp; done) | (go_simp; rw [hne]) | (go_simp; rw [hnn]) | (go_simp; simp [hn0])); simp only [Act.put, List.setIfInBounds_toArray, List.getElem_toArray, List.getElem_cons_succ, List.getElem_cons_zero, List.set_cons_succ, List.set_cons_zero])
          (refine HoistK.yes (by rfl) (by kernel_rfl) ⟨?_, fun w' hSw => ?_, ?_⟩; rotate_left; (· go_simp; try with_reducible rfl); simp only [Act.put, List.setIfInBounds_toArray, List.getElem_toArray, List.getElem_cons_succ, List.getElem_cons_zero, List.set_cons_succ, List.set_cons_zero])
          (refine HoistK.no (by rfl) (by kernel_rfl) ?_; simp only [Act.put, List.setIfInBounds_toArray, List.getElem_toArray, List.getElem_cons_succ, List.getElem_cons_zero, List.set_cons_succ, List.set_cons_zero])
          (refine HoistK.no (by rfl) (by kernel_rfl) ?_; simp only [Act.put, List.setIfInBounds_toArray, List.getElem_toArray, List.getElem_cons_succ, List.getElem_cons_zero, List.set_cons_succ, List.set_cons_zero])
          (refine HoistK.no (by rfl) (by kernel_rfl) ?_; simp only [Act.put, List.setIfInBounds_toArray, List.getElem_toArray, List.getElem_cons_succ, List.getElem_cons_zero, List.set_cons_succ, List.set_cons_zero])
          refine HoistK.nil_ ?_
          simp only [opsAt, List.filterMap_cons, List.filterMap_nil, List.getElem?_toArray, List.getElem?_cons_succ, List.getElem?_cons_zero]
          refine EffS.cons_ fun _ hQ => ?_
          go_wp2_with fail
          refine hQ _ _ ⟨ha, hx⟩ (EffS.nil_ (SegV.mk (fun w' => (Bs w' S (.slice A bs.length cap) bs ∧ Blk w' w3.heap.size 48 C.toArray) ∧ True) (fun _ h => h.1) ⟨⟨ha, hx⟩, trivial⟩ ?_))
          (refine HoistK.no (by rfl) (by kernel_rfl) ?_; simp only [Act.put, List.setIfInBounds_toArray, List.getElem_toArray, List.getElem_cons_succ, List.getElem_cons_zero, List.set_cons_succ, List.set_cons_zero])
          (refine HoistK.no (by rfl) (by kernel_rfl) ?_; simp only [Act.put, List.setIfInBounds_toArray, List.getElem_toArray, List.getElem_cons_succ, List.getElem_cons_zero, List.set_cons_succ, List.set_cons_zero])
          (refine HoistK.yes (by rfl) (by kernel_rfl) ⟨?_, fun w' hSw => ?_, ?_⟩; rotate_left; (· go_simp; try with_reducible rfl); simp only [Act.put, List.setIfInBounds_toArray, List.getElem_toArray, List.getElem_cons_succ, List.getElem_cons_zero, List.set_cons_succ, List.set_cons_zero])
          refine HoistK.nil_ ?_
          simp only [opsAt, List.filterMap_cons, List.filterMap_nil, List.getElem?_toArray, List.getElem?_cons_succ, List.getElem?_cons_zero]
          refine EffS.cons_ fun _ hQ => ?_
          go_wp2_with fail
          refine hQ _ _ ⟨⟨ha, hx⟩, trivial⟩ (EffS.nil_ fun _ hQ => ?_)
          go_wp2_with fail
          go_ret
          exact ⟨rfl, hb⟩

end Go.Proofs.YtjjgmkfkmckkoabGreatDoor
