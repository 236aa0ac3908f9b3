/- Texts joined: CfD BuildS CfE CfG CgI CsB CrA CrB CdF CrC CrE CrD CrF CrG CrH CrI CrK CdC CdG CdH CdI CdJ CdK. -/
import Derived.Test.YtjjgmkfkmckkoabGreatDoorMa
import Derived.RegionTactic
import Derived.Great.BuildSlice
import Derived.Laws.Tables
import Derived.Deep.QuietTactic
import Derived.BigQuiet
import Derived.Stop.LaidTwo
import Derived.LaidLaws
import Derived.LaidHandle
import Derived.WalkKit
import Derived.ProofKit
import Derived.Lib.LaidTab
import Derived.Stop.Texts
/- Codec: bytes and truth values read; a thing's parts (split). -/
namespace Go.Proofs.YtjjgmkfkmckkoabGreatDoor
open Go.RowKit Go.Maps

theorem pbytes_any (w : World) {X : Nat → Prop} {E g : Nat} {sent : Value} {x : List UInt8} {rows : List (List UInt8)} {bad : Bool} (h : Pt w X E g sent (x :: rows) bad) :
    Calls Tryz.prog 76 #[.pointer (some ⟨g, 0, none⟩)] w (Took .byt w X E g sent x rows bad) := by
  have H := Lib.hid (next_any w h); clear h
  go_enter Tryz.func76, Tryz.ntmps76
  go_wp2_with fail
  refine H.out.mono ?_
  rintro e w1 ⟨v, rfl, hb, hc, hp⟩
  have h63 : 0 + x.length ≤ maxLen := by have := hb.2; simp only [maxLen]; omega
  have hby : (0 + x.length) * 1 ≤ 140737488355328 := by have := hb.2; omega
  have HB := Lib.hid hb
  have HP := Lib.hid hp
  have HH := Lib.hid (And.intro h63 hby)
  clear hb hp h63 hby
  go_wp2_with (at_builtin; refine wpList_app _ rfl _ _ _ rfl Tryz.underlying50 info_u8 rfl (by decide) (Own.nil_ _ _ _) rfl HB.out.1 rfl (u8s_one _) HH.out.1 HH.out.2 ?_; intro v2 w2 ho2 hc2 hn2 hat2; clear hn2; have HO := Lib.hid ho2; clear ho2; have HC := Lib.hid hc2; clear hc2; have HAT := Lib.hid hat2; clear hat2)
  go_ret
  have hb2 : Below w1.heap.size w1 w2 := HC.out.below (Nat.le_refl _) fun b hb => by simp [Value.ownBlock] at hb
  have ho := HO.out
  rw [Nat.zero_add, List.nil_append] at ho
  have hown : ∀ k, v2.ownBlock = some k → w.heap.size ≤ k := fun k hk => by
    rcases HAT.out with e | e
    · rw [e] at hk; simp [Value.ownBlock] at hk
    · rw [e] at hk; injection hk with hk; have := hc.size; omega
  have hrow : Bs w2 (fun b => w.heap.size ≤ b) v2 x := ⟨Cs.of_own ho hown, HB.out.2⟩
  obtain ⟨A2, c2, rfl⟩ := hrow.form
  exact ⟨[.slice A2 x.length c2], bad, rfl, hc.trans (Chg.of_below hb2 fun k => k = g) fun b h => .inl h, HP.out.below hb2, rfl, fun v hv => by obtain rfl := List.mem_singleton.1 hv; rfl, .inl ⟨x, rfl, rfl, _, rfl, hrow⟩⟩

theorem ptruth_any (w : World) {X : Nat → Prop} {E g : Nat} {sent : Value} {x : List UInt8} {rows : List (List UInt8)} {bad : Bool} (h : Pt w X E g sent (x :: rows) bad) :
    Calls Tryz.prog 77 #[.pointer (some ⟨g, 0, none⟩)] w (Took .bool w X E g sent x rows bad) := by
  have H := Lib.hid (sized_any w h 1 (by omega)); clear h
  go_enter Tryz.func77, Tryz.ntmps77
  go_wp2_with fail
  refine H.out.mono ?_
  rintro e w1 ⟨v, y, bad', rfl, hb1, hl1, hc1, hp1, hx⟩
  obtain ⟨c, rfl⟩ : ∃ c, y = [c] := by
    cases y with
    | nil => simp at hl1
    | cons c l => cases l with
      | nil => exact ⟨c, rfl⟩
      | cons d l => simp at hl1
  obtain ⟨⟨_, A, cap, rfl, hn, hcap, hp⟩, _⟩ := hb1
  obtain ⟨b, off, rfl, hS, hlt, hcell⟩ := hp (by simp)
  have hc0 : w1.cell? ⟨b, off, none⟩ = some (.int .u8 c.toNat) := hcell 0 _ rfl
  have HP := Lib.hid hp1
  have HX := Lib.hid hx
  have hc256 := c.toNat_lt
  obtain ⟨m, hm⟩ : ∃ m, m = c.toNat := ⟨_, rfl⟩
  rw [← hm] at hc0 hc256
  have HM := Lib.hid hm
  clear hp1 hx hl1 hp hcell hm
  by_cases h1 : 1 < m
  · obtain ⟨⟨sa, rfl⟩, hgl⟩ := HP.out.1
    have hgl : w1.cell? ⟨gF, 0, none⟩ = some _ := hgl
    unfold gF at hgl
    have hxl := HP.out.2.2.2.1
    have hxE := HP.out.2.2.2.2.1
    have hp2 := HP.out.below ((Below.refl w1.heap.size w1).alloc (Nat.le_refl _) (.cells #[.string ⟨#[97, 32, 116, 114, 117, 116, 104, 32, 118, 97, 108, 117, 101]⟩, .iface 205 (.pointer (some sa))] 117))
    have hch : Chain (w1.alloc (.cells #[.string ⟨#[97, 32, 116, 114, 117, 116, 104, 32, 118, 97, 108, 117, 101]⟩, .iface 205 (.pointer (some sa))] 117)) (fun b => ¬ X b ∧ E ≤ b) _ _ := Chain.fresh _ ⟨fun h => absurd (hxl _ h) (Nat.lt_irrefl _), hxE⟩
    have HB := Lib.hid (bad_any _ hp2 hch)
    have hd : ((m : Int) == 1) = false := by simp; omega
    have h1I : (1 : Int) < m := by omega
    clear hp2 hch hxl hxE H
    go_wp2_with fail
    refine HB.out.mono ?_
    rintro e w2 ⟨rfl, hc2, hp2⟩
    have HP2 := Lib.hid hp2; clear hp2
    go_wp2_with fail
    go_ret
    refine ⟨[.bool false], true, rfl, (hc1.alloc _).trans hc2 fun b h => .inl h, HP2.out, rfl, fun v hv => by obtain rfl := List.mem_singleton.1 hv; rfl, .inr ⟨?_, rfl⟩⟩
    have hd : Sh.bool.dec x = if x = [0] then some false else if x = [1] then some true else none := rfl
    rw [hd]
    have hxx : ∀ k : UInt8, k.toNat ≤ 1 → x ≠ [k] := fun k hk e => by
      rcases HX.out with ⟨_, h2, _⟩ | ⟨h2, _⟩
      · rw [← h2] at e; injection e with e; rw [HM.out, e] at h1; omega
      · rw [e] at h2; exact h2 rfl
    rw [if_neg (hxx 0 (by decide)), if_neg (hxx 1 (by decide))]
  · have h1I : ¬ (1 : Int) < m := by omega
    go_wp2_with fail
    go_ret
    refine ⟨[.bool ((m : Int) == 1)], bad', rfl, hc1, HP.out, rfl, fun v hv => by obtain rfl := List.mem_singleton.1 hv; rfl, ?_⟩
    have hd : Sh.bool.dec x = if x = [0] then some false else if x = [1] then some true else none := rfl
    rw [hd]
    rcases HX.out with ⟨_, h2, h3⟩ | ⟨h2, h3⟩
    · have hm := HM.out
      rcases Nat.lt_or_ge m 1 with h0 | h0
      · have hm0 : m = 0 := by omega
        have hc : c = 0 := by rw [← UInt8.toNat_inj, ← hm, hm0]; rfl
        subst hc
        rw [if_pos h2.symm]
        refine .inl ⟨false, rfl, h3, ?_⟩
        rw [hm0]; rfl
      · have hm0 : m = 1 := by omega
        have hc : c = 1 := by rw [← UInt8.toNat_inj, ← hm, hm0]; rfl
        subst hc
        rw [if_neg (by rw [← h2]; decide), if_pos h2.symm]
        refine .inl ⟨true, rfl, h3, ?_⟩
        rw [hm0]; rfl
    · rw [if_neg (fun e => by rw [e] at h2; exact h2 rfl), if_neg (fun e => by rw [e] at h2; exact h2 rfl)]
      exact .inr ⟨rfl, h3⟩

theorem joinP_mem_le {l : List (List UInt8)} {b : List UInt8} (h : splitB b = some l) : ∀ x ∈ l, x.length ≤ b.length := fun x hx => by
  have h1 := splitB_back h
  have h2 := joinP_mem hx
  rw [← h1, joinB_length]; omega
/-- What split gives. -/
def Start (w : World) (sent : Value) (b : List UInt8) (n : Nat) (en : Ending) (w' : World) : Prop :=
  ∃ g rows bad, en = .returned (.pointer (some ⟨g, 0, none⟩)) ∧ w.heap.size ≤ g ∧ Below w.heap.size w w' ∧ Pt w' (fun b => b = g) w.heap.size g sent rows bad ∧ rows.length = n ∧ (∀ x ∈ rows, x.length ≤ b.length) ∧ ((bad = false ∧ splitB b = some rows) ∨ (bad = true ∧ ∀ l, splitB b = some l → l.length ≠ n))
theorem run_make_rows (n : Nat) (hn : n ≤ 1048576) (u : World) : (Instr.makeSlice 103 (.int .i64 n) (.int .i64 n)).run Tryz.prog u =
    .ok (.slice (some ⟨u.heap.size, 0, none⟩) n n) (u.alloc (.cells (List.replicate n (.slice none 0 0)).toArray 50)) := by
  obtain ⟨i0, hi, hz0, hz1, hz2⟩ := info_parts info_row
  have h := run_make (P := Tryz.prog) u 103 50 i0 (.slice none 0 0) Tryz.underlying103 hi hz0 .i64 .i64 (n : Int) (n : Int) (by omega) (Int.le_refl _) (by rw [hz2]; omega) (by omega)
  simp only [Int.toNat_natCast] at h
  have e : madeCells (Value.slice none 0 0).cells (n * i0.size) = (List.replicate n (Value.slice none 0 0)).toArray := by
    apply Array.toList_inj.1
    rw [hz1, Nat.mul_one]
    exact toList_madeCells_one _ _
  rw [h, e]
theorem Bsr.empties (w : World) (n : Nat) (hn : n ≤ 1000) (S : Nat → Prop) (hS : S w.heap.size) : Bsr (w.alloc (.cells (List.replicate n (.slice none 0 0)).toArray 50)) S (.slice (some ⟨w.heap.size, 0, none⟩) n n) (List.replicate n []) := by
  have hc := Cs.of_new w 50 (size := 1) n (cs := List.replicate n (.slice none 0 0)) (by simp) (by simp only [maxLen]; omega)
  refine ⟨List.replicate n (.slice none 0 0), by rw [List.length_replicate]; exact hc.sub fun b hb _ => hb ▸ hS, fun i x u h1 h2 => ?_⟩
  rw [List.getElem?_replicate] at h1 h2
  split at h1
  · injection h1 with h1
    rw [if_pos (by assumption)] at h2
    injection h2 with h2
    subst h1 h2
    exact Bs.nil_ _ _
  · cases h1

theorem Start.mk {w W : World} {sent : Value} {bs : List UInt8} {n g : Nat} {v e : Value} {rows : List (List UInt8)} {bad : Bool} (hb : Below w.heap.size w W) (hgw : w.heap.size ≤ g) (hgl : Gl w sent) (hblk : Blk W g 133 #[v, e])
    (hr : Bsr W (fun b => ¬ b = g) v rows) (he : Err W (fun b => ¬ b = g ∧ w.heap.size ≤ b) sent bad e) (hn : rows.length = n) (hx : ∀ x ∈ rows, x.length ≤ bs.length) (hs : (bad = false ∧ splitB bs = some rows) ∨ (bad = true ∧ ∀ l, splitB bs = some l → l.length ≠ n)) :
    Start w sent bs n (.returned (.pointer (some ⟨g, 0, none⟩))) W :=
  ⟨g, rows, bad, rfl, hgw, hb, ⟨hgl.below hb, fun h => by have := hgl.lt; omega, rfl, fun b h => by rw [h]; exact hblk.lt, hb.size, v, e, hblk, hr, he⟩, hn, hx, hs⟩
theorem Bsr.empties' (w : World) (n : Nat) (hn : n ≤ 1000) (S : Nat → Prop) (hS : S w.heap.size) : Bsr (w.alloc (.cells (Array.replicate n (.slice none 0 0)) 50)) S (.slice (some ⟨w.heap.size, 0, none⟩) n n) (List.replicate n []) := by
  have := Bsr.empties w n hn S hS
  rwa [List.toArray_replicate] at this
/-- The two orders in which a wrong thing's parts are made. -/
theorem Start.bad1 {w w1 : World} {sent : Value} {bs : List UInt8} {n : Nat} (what : Value) (hb : Below w.heap.size w w1) (hg : Gl w sent) (hn : n ≤ 1000) (hs : ∀ l, splitB bs = some l → l.length ≠ n) :
    Start w sent bs n (.returned (.pointer (some ⟨w1.heap.size + 1 + 1, 0, none⟩))) (((w1.alloc (.cells (Array.replicate n (.slice none 0 0)) 50)).alloc (.cells #[what, sent] 117)).alloc (.cells #[.slice (some ⟨w1.heap.size, 0, none⟩) n n, .iface 113 (.pointer (some ⟨w1.heap.size + 1, 0, none⟩))] 133)) := by
  have h1 := Bsr.empties' w1 n hn (fun b => b = w1.heap.size) rfl
  obtain ⟨wa, hwa⟩ : ∃ wa, wa = w1.alloc (.cells (Array.replicate n (.slice none 0 0)) 50) := ⟨_, rfl⟩
  have hsa : wa.heap.size = w1.heap.size + 1 := by rw [hwa]; simp
  have hba : Below w.heap.size w wa := hwa ▸ hb.alloc hb.size _
  have h2 := Chain.fresh (w := wa) (sent := sent) (S := fun b => b = wa.heap.size) what rfl
  rw [← hwa] at h1 ⊢
  obtain ⟨wb, hwb⟩ : ∃ wb, wb = wa.alloc (.cells #[what, sent] 117) := ⟨_, rfl⟩
  have hsb : wb.heap.size = wa.heap.size + 1 := by rw [hwb]; simp
  have hbb : Below wa.heap.size wa wb := hwb ▸ (Below.refl _ wa).alloc (Nat.le_refl _) _
  rw [← hwb] at h2 ⊢
  have hbc : ∀ o, Below wb.heap.size wb (wb.alloc o) := fun o => (Below.refl _ wb).alloc (Nat.le_refl _) o
  have hk := Blk.new wb 133 #[.slice (some ⟨w1.heap.size, 0, none⟩) n n, .iface 113 (.pointer (some ⟨w1.heap.size + 1, 0, none⟩))]
  have := hb.size
  rw [hsb, hsa] at hk
  rw [hsa] at h2
  exact Start.mk ((hba.trans (hbb.mono hba.size)).alloc (Nat.le_trans hba.size hbb.size) _) (by omega) hg hk (((h1.below hbb).below (hbc _)).subs fun b hb _ h => by omega)
    (.inr ⟨rfl, (h2.low (hbc _)).sub fun b hb _ => ⟨fun h => by omega, by omega⟩⟩) (by simp) (fun x hx => by rw [List.eq_of_mem_replicate hx]; simp) (.inr ⟨rfl, hs⟩)
theorem Start.bad2 {w w1 : World} {sent : Value} {bs : List UInt8} {n : Nat} (what : Value) (hb : Below w.heap.size w w1) (hg : Gl w sent) (hn : n ≤ 1000) (hs : ∀ l, splitB bs = some l → l.length ≠ n) :
    Start w sent bs n (.returned (.pointer (some ⟨w1.heap.size + 1 + 1, 0, none⟩))) (((w1.alloc (.cells #[what, sent] 117)).alloc (.cells (Array.replicate n (.slice none 0 0)) 50)).alloc (.cells #[.slice (some ⟨w1.heap.size + 1, 0, none⟩) n n, .iface 113 (.pointer (some ⟨w1.heap.size, 0, none⟩))] 133)) := by
  have h2 := Chain.fresh (w := w1) (sent := sent) (S := fun b => b = w1.heap.size) what rfl
  obtain ⟨wa, hwa⟩ : ∃ wa, wa = w1.alloc (.cells #[what, sent] 117) := ⟨_, rfl⟩
  have hsa : wa.heap.size = w1.heap.size + 1 := by rw [hwa]; simp
  have hba : Below w.heap.size w wa := hwa ▸ hb.alloc hb.size _
  have h1 := Bsr.empties' wa n hn (fun b => b = wa.heap.size) rfl
  rw [← hwa] at h2 ⊢
  obtain ⟨wb, hwb⟩ : ∃ wb, wb = wa.alloc (.cells (Array.replicate n (.slice none 0 0)) 50) := ⟨_, rfl⟩
  have hsb : wb.heap.size = wa.heap.size + 1 := by rw [hwb]; simp
  have hbb : Below wa.heap.size wa wb := hwb ▸ (Below.refl _ wa).alloc (Nat.le_refl _) _
  rw [← hwb] at h1 ⊢
  have hbc : ∀ o, Below wb.heap.size wb (wb.alloc o) := fun o => (Below.refl _ wb).alloc (Nat.le_refl _) o
  have hk := Blk.new wb 133 #[.slice (some ⟨w1.heap.size + 1, 0, none⟩) n n, .iface 113 (.pointer (some ⟨w1.heap.size, 0, none⟩))]
  have := hb.size
  rw [hsb, hsa] at hk
  rw [hsa] at h1
  exact Start.mk ((hba.trans (hbb.mono hba.size)).alloc (Nat.le_trans hba.size hbb.size) _) (by omega) hg hk ((h1.below (hbc _)).subs fun b hb _ h => by omega)
    (.inr ⟨rfl, ((h2.low hbb).low (hbc _)).sub fun b hb _ => ⟨fun h => by omega, by omega⟩⟩) (by simp) (fun x hx => by rw [List.eq_of_mem_replicate hx]; simp) (.inr ⟨rfl, hs⟩)

theorem Start.drew {w W : World} {sent : Value} {bs : List UInt8} {n : Nat} {e : Ending} (h : Start w sent bs n e W) : Start w sent bs n e W.drew := by
  obtain ⟨g, rows, bad, h1, h2, h3, h4, h5⟩ := h
  exact ⟨g, rows, bad, h1, h2, h3.drew, h4.below (Below.refl _ W).drew, h5⟩

set_option maxRecDepth 100000 in
theorem psplit_any (w : World) {S : Nat → Prop} {v sent : Value} {bs : List UInt8} (h : Bs w S v bs) (hlen : bs.length ≤ 1099511627776) (hg : Gl w sent) (n : Nat) (hn : n ≤ 1000) (what : ByteArray) :
    Calls Tryz.prog 63 #[v, .int .i64 n, .string what] w (Start w sent bs n) := by
  have H := Lib.hid (split_any w h hlen)
  obtain ⟨A, cap, rfl⟩ := h.form
  have HG := Lib.hid hg
  clear h hg
  go_enter Tryz.func63, Tryz.ntmps63
  go_wp2_with fail
  refine H.out.mono ?_
  rintro e w1 ⟨hb1, ⟨hno, rfl⟩ | ⟨v1, rows, hsp, rfl, hbss⟩⟩
  · have HNO := Lib.hid hno; clear hno
    obtain ⟨⟨sa, rfl⟩, hgl⟩ := HG.out.below hb1
    have hgl : w1.cell? ⟨gF, 0, none⟩ = some _ := hgl
    unfold gF at hgl
    have hmk := run_make_rows n (by omega)
    have hg1 : 1 < w1.heap.size := (HG.out.below hb1).lt
    go_wp2_with fail
    go_region
    · go_wp2
      go_ret
      exact Start.drew <| Start.bad1 _ hb1 HG.out hn fun l hl => by rw [HNO.out] at hl; cases hl
    · go_wp2
      go_ret
      exact Start.drew <| Start.bad2 _ hb1 HG.out hn fun l hl => by rw [HNO.out] at hl; cases hl
  · have hlr : ∀ x ∈ rows, x.length ≤ 140737488355328 := fun x hx => by have := joinP_mem_le hsp x hx; omega
    have HSP := Lib.hid hsp; clear hsp
    obtain ⟨A1, c1, rfl⟩ := hbss.form
    have HB := Lib.hid (hbss.read hlr)
    clear hbss hlr
    by_cases hl : rows.length = n
    · have HL := Lib.hid hl
      have hd : (((rows.length : Nat) : Int) != (n : Int)) = false := by simp [hl]
      clear hl
      go_wp2_with fail
      go_ret
      have hal := (Below.refl w1.heap.size w1).alloc (Nat.le_refl _) (.cells #[.slice A1 rows.length c1, .nilIface] 133)
      have := hb1.size
      exact Start.mk (hb1.trans (hal.mono this)) this HG.out (Blk.new w1 _ _) ((HB.out.lt_ (T := fun _ => True) fun _ _ => trivial).below hal |>.subs fun b hb _ h => by omega) (.inl ⟨rfl, rfl⟩) HL.out (joinP_mem_le HSP.out) (.inl ⟨rfl, HSP.out⟩)
    · have HL := Lib.hid hl
      have hd : (((rows.length : Nat) : Int) != (n : Int)) = true := by simp; omega
      clear hl
      obtain ⟨⟨sa, rfl⟩, hgl⟩ := HG.out.below hb1
      have hgl : w1.cell? ⟨gF, 0, none⟩ = some _ := hgl
      unfold gF at hgl
      have hmk := run_make_rows n (by omega)
      have hg1 : 1 < w1.heap.size := (HG.out.below hb1).lt
      go_wp2_with fail
      go_region
      · go_wp2
        go_ret
        exact Start.drew <| Start.bad1 _ hb1 HG.out hn fun l hl => by rw [HSP.out] at hl; injection hl with hl; rw [← hl]; exact HL.out
      · go_wp2
        go_ret
        exact Start.drew <| Start.bad2 _ hb1 HG.out hn fun l hl => by rw [HSP.out] at hl; injection hl with hl; rw [← hl]; exact HL.out

end Go.Proofs.YtjjgmkfkmckkoabGreatDoor

/- Structs built out of their fields. No program. -/
namespace Go.Proofs.YtjjgmkfkmckkoabGreatDoor
open Go.RowKit

theorem bfold_put (off : Nat) : ∀ (l : List Value) (s : Nat) (acc : Array Value) (i : Nat), off + s + l.length ≤ acc.size →
    ((l.zipIdx s).foldl (fun (cs : Array Value) (x : Value × Nat) => cs.setIfInBounds (off + x.2) x.1) acc)[i]? = if off + s ≤ i ∧ i < off + s + l.length then l[i - (off + s)]? else acc[i]?
  | [], s, acc, i, _ => by
    simp only [List.length_nil]
    rw [if_neg (by omega)]
    rfl
  | v :: r, s, acc, i, h => by
    simp only [List.length_cons] at h
    rw [List.zipIdx_cons, List.foldl_cons, bfold_put off r (s + 1) _ i (by simp; omega)]
    by_cases h1 : off + s = i
    · subst h1
      rw [if_neg (by omega), if_pos (by simp)]
      simp [show off + s < acc.size by omega]
    · by_cases h2 : off + (s + 1) ≤ i ∧ i < off + (s + 1) + r.length
      · rw [if_pos h2, if_pos (by simp; omega)]
        rw [show i - (off + s) = (i - (off + (s + 1))) + 1 by omega]
        simp
      · rw [if_neg h2, if_neg (by simp; omega)]
        simp [h1]
theorem bfold_put_arr (off : Nat) (c acc : Array Value) (i : Nat) (h : off + c.size ≤ acc.size) :
    (c.zipIdx.foldl (fun cs (x : Value × Nat) => cs.setIfInBounds (off + x.2) x.1) acc)[i]? = if off ≤ i ∧ i < off + c.size then c[i - off]? else acc[i]? := by
  rw [← Array.foldl_toList, Array.toList_zipIdx]
  have := bfold_put off c.toList 0 acc i (by simpa using h)
  simpa using this

theorem bfill_one {place : Nat → Option (Nat × Nat)} {cells : Array Value} {i off size : Nat} {v : Value} {rest : List (Nat × Value)} (hp : place i = some (off, size)) (hs : v.cells.size = size) (hb : off + size ≤ cells.size) :
    Instr.fill place cells ((i, v) :: rest) = Instr.fill place (v.cells.zipIdx.foldl (fun cs (x : Value × Nat) => cs.setIfInBounds (off + x.2) x.1) cells) rest := by
  have hb' : ¬ cells.size < off + size := by omega
  rw [Instr.fill, hp]
  simp [hs, hb']


theorem cells_one {v : Value} (h : v.oneCell' = true) : v.cells = #[v] := by
  cases v <;> first | rfl | (simp [Value.oneCell'] at h)
/-- The fields' places, piece for piece. -/
def PlaceOk (place : Nat → Option (Nat × Nat)) : Nat → Nat → List (List Value) → Prop
  | _, _, [] => True
  | i, o, c :: l => place i = some (o, c.length) ∧ PlaceOk place (i + 1) (o + c.length) l
/-- The fields' values and their cells. -/
def Pieces : List Value → List (List Value) → Prop
  | [], [] => True
  | v :: vs, c :: cs => v.cells = c.toArray ∧ Pieces vs cs
  | _, _ => False
theorem fill_pieces {place : Nat → Option (Nat × Nat)} : ∀ (vs : List Value) (cs : List (List Value)) (i : Nat) (pre old : List Value), Pieces vs cs → PlaceOk place i pre.length cs → old.length = cs.flatten.length →
    Instr.fill place (pre ++ old).toArray ((vs.zipIdx i).map fun x => (x.2, x.1)) = some (pre ++ cs.flatten).toArray
  | [], [], i, pre, old, _, _, hl => by
    obtain rfl : old = [] := List.eq_nil_of_length_eq_zero (by simpa using hl)
    rfl
  | [], _ :: _, _, _, _, h, _, _ => by cases h
  | _ :: _, [], _, _, _, h, _, _ => by cases h
  | v :: vs, c :: cs, i, pre, old, ⟨hv, h⟩, ⟨hp, hpl⟩, hl => by
    rw [List.flatten_cons, List.length_append] at hl
    have hs : v.cells.size = c.length := by rw [hv, List.size_toArray]
    rw [List.zipIdx_cons, List.map_cons, bfill_one hp hs (by simp; omega)]
    have he : (v.cells.zipIdx.foldl (fun cs (x : Value × Nat) => cs.setIfInBounds (pre.length + x.2) x.1) (pre ++ old).toArray) = ((pre ++ c) ++ old.drop c.length).toArray := by
      apply Array.ext_getElem?
      intro j
      rw [bfold_put_arr pre.length v.cells _ j (by rw [hs]; simp; omega), hs, hv]
      by_cases h1 : pre.length ≤ j ∧ j < pre.length + c.length
      · rw [if_pos h1, List.getElem?_toArray, List.getElem?_toArray, List.append_assoc, List.getElem?_append_right h1.1, List.getElem?_append_left (by omega)]
      · rw [if_neg h1, List.getElem?_toArray, List.getElem?_toArray]
        rcases Nat.lt_or_ge j pre.length with h2 | h2
        · rw [List.getElem?_append_left h2, List.append_assoc, List.getElem?_append_left h2]
        · rw [List.getElem?_append_right h2, List.getElem?_append_right (by simp; omega), List.getElem?_drop]
          congr 1
          simp; omega
    rw [he]
    have := fill_pieces vs cs (i + 1) (pre ++ c) (old.drop c.length) h (by rw [List.length_append]; exact hpl) (by rw [List.length_drop]; omega)
    rw [this, List.flatten_cons, List.append_assoc]

theorem built_struct {P : Program} {t : TypeId} {n : Nat} {places : List (Nat × Nat)} (hi : (P.info? t).map (fun i => (i.zero.map (fun z => z.cells.size))) = some (some n))
    (hp : ((match P.underlying t with | some (.struct fields) => fields.toList.mapM (fun f => (P.info? f.type).map fun i => (f.offset, i.size)) | _ => none)) = some places)
    {vs : List Value} {cs : List (List Value)} (h : Pieces vs cs) (hpl : PlaceOk (fun i => places.toArray[i]?) 0 0 cs) (hn : cs.flatten.length = n) : P.built t ((vs.zipIdx 0).map fun x => (x.2, x.1)) = some cs.flatten.toArray := by
  unfold Program.built
  cases hit : P.info? t with
  | none => rw [hit] at hi; cases hi
  | some it =>
    rw [hit] at hi
    cases hz : it.zero with
    | none => rw [Option.map_some, hz] at hi; simp at hi
    | some z =>
      rw [Option.map_some, hz] at hi
      simp only [Option.map_some, Option.some.injEq] at hi
      cases hu : P.underlying t with
      | none => rw [hu] at hp; cases hp
      | some d =>
        rw [hu] at hp
        cases d <;> first | (cases hp; done) | skip
        rename_i fields
        simp only at hp ⊢
        rw [hp, hz]
        have := fill_pieces (place := fun i => places.toArray[i]?) vs cs 0 [] z.cells.toList h hpl (by rw [hn]; simpa using hi)
        simpa using this
theorem run_struct {P : Program} {t : TypeId} {n : Nat} {places : List (Nat × Nat)} (hi : (P.info? t).map (fun i => (i.zero.map (fun z => z.cells.size))) = some (some n))
    (hp : ((match P.underlying t with | some (.struct fields) => fields.toList.mapM (fun f => (P.info? f.type).map fun i => (f.offset, i.size)) | _ => none)) = some places)
    {vs : List Value} {cs : List (List Value)} (h : Pieces vs cs) (hpl : PlaceOk (fun i => places.toArray[i]?) 0 0 cs) (hn : cs.flatten.length = n) (parts : Array (Nat × Value)) (hparts : parts.toList = (vs.zipIdx 0).map fun x => (x.2, x.1)) (w : World) :
    (Instr.build t parts).run P w = .ok (.agg cs.flatten.toArray) w :=
  run_build w t parts _ (by rw [hparts]; exact built_struct hi hp h hpl hn)

theorem wpList_build_ {P : Program} {ops : Array Oper} {rest : List Oper} {o : Oper} {a : Act} {w : World} {Q : Exit → Act → World → Prop} (hg : o.guard = none) (ty : TypeId) (parts : Array (Nat × Operand)) (ho : o.op = .build ty parts)
    (ps : Array (Nat × Value)) (hp : (parts.map fun (i, x) => (i, a.eval x)) = ps) (v : Value) (hb : (Instr.build ty ps).run P w = .ok v w) (h : wpList P ops Q rest (a.put o.dst v) w) : wpList P ops Q (o :: rest) a w :=
  wpList_plain hg fun _ hK => by
    unfold Oper.wp execOp
    simp only [ho, hp, Sem.run_bind, hb, Sem.run_pure, Result.andThen_ok]
    exact hK _ _ h

/-- A row of one element. -/
theorem wpList_row1 {P : Program} {ops : Array Oper} {rest : List Oper} {o : Oper} {a : Act} {w : World} {Q : Exit → Act → World → Prop} (hg : o.guard = none) (t e : TypeId) (x : Operand) (ho : o.op = .buildSlice t 1 #[(0, x)]) (hu : P.underlying t = some (.slice e))
    (v : Value) (hx : a.eval x = v) (C : List Value) (hv : v.cells = C.toArray) (hi : (P.info? e).map (fun i => (i.zero.map (fun z => z.cells.size), i.size)) = some (some C.length, C.length)) (h0 : 0 < C.length) (hn : C.length ≤ 1000)
    (h : wpList P ops Q rest (a.put o.dst (.slice (some ⟨w.heap.size, 0, none⟩) 1 1)) (w.alloc (.cells C.toArray e))) : wpList P ops Q (o :: rest) a w := by
  cases hit : P.info? e with
  | none => rw [hit] at hi; cases hi
  | some i0 =>
    rw [hit] at hi
    cases hz : i0.zero with
    | none => rw [Option.map_some, hz] at hi; simp at hi
    | some z =>
      rw [Option.map_some, hz] at hi
      simp only [Option.map_some, Option.some.injEq, Prod.mk.injEq] at hi
      obtain ⟨hz1, hz2⟩ := hi
      refine wpList_buildSlice hg t e 1 _ ho C.toArray i0 z hu hit hz (by rw [hz2]; omega) (by rw [hz2]; omega) ?_ h
      have := fill_pieces (place := fun i => some (i * i0.size, i0.size)) [v] [C] 0 [] ((Array.range (1 * i0.size)).map (z.cells[· % z.cells.size]!)).toList ⟨hv, trivial⟩ ⟨by simp [hz2], trivial⟩ (by simp [hz2])
      rw [List.nil_append, Array.toArray_toList] at this
      have e1 : (#[(0, x)].map fun (i, x) => (i, a.eval x)).toList = ([v].zipIdx 0).map fun x => (x.2, x.1) := by simp [hx]
      rw [e1, this]
      simp

end Go.Proofs.YtjjgmkfkmckkoabGreatDoor

/- Codec: what the readers' walks share. -/
namespace Go.Proofs.YtjjgmkfkmckkoabGreatDoor
open Go.RowKit Go.Maps

theorem Took.one {s : Sh} {w : World} {X : Nat → Prop} {E g : Nat} {sent : Value} {b : List UInt8} {rest : List (List UInt8)} {bad : Bool} {e : Ending} {w' : World} (hs : ∀ y, s.val [y] = y) (h1 : s.cells = 1) (h : Took s w X E g sent b rest bad e w') :
    ∃ y bad', e = .returned y ∧ y.oneCell' = true ∧ Chg (fun k => k = g) w w' ∧ Pt w' X E g sent rest bad' ∧ SOut s w' (fun b => w.heap.size ≤ b) b [y] bad bad' := by
  obtain ⟨cs, bad', rfl, hc, hp, ho⟩ := h
  obtain ⟨y, rfl⟩ : ∃ y, cs = [y] := by
    have := ho.1
    rw [h1] at this
    exact List.length_eq_one_iff.1 this
  exact ⟨y, bad', by rw [hs], ho.2.1 y (by simp), hc, hp, ho⟩
theorem Took.agg {s : Sh} {w : World} {X : Nat → Prop} {E g : Nat} {sent : Value} {b : List UInt8} {rest : List (List UInt8)} {bad : Bool} {e : Ending} {w' : World} (hs : ∀ c, s.val c = .agg c.toArray) (h : Took s w X E g sent b rest bad e w') :
    ∃ c bad', e = .returned (.agg c.toArray) ∧ (∀ v ∈ c, v.oneCell' = true) ∧ c.length = s.cells ∧ Chg (fun k => k = g) w w' ∧ Pt w' X E g sent rest bad' ∧ SOut s w' (fun b => w.heap.size ≤ b) b c bad bad' := by
  obtain ⟨cs, bad', rfl, hc, hp, ho⟩ := h
  exact ⟨cs, bad', by rw [hs], ho.2.1, ho.1, hc, hp, ho⟩
theorem Pt.parts {w : World} {X : Nat → Prop} {E g : Nat} {sent : Value} {rows : List (List UInt8)} {bad : Bool} (h : Pt w X E g sent rows bad) : ∃ v e, Blk w g 133 #[v, e] ∧ Err w (fun b => E ≤ b) sent bad e := by
  obtain ⟨_, _, _, _, _, v, e, h1, _, h3⟩ := h
  exact ⟨v, e, h1, h3.to (fun b _ hlt => ⟨hlt, rfl⟩) fun b hb _ => hb.2⟩
/-- The end of a reader. -/
theorem ReadOut.mk {fs : Fs} {w wN w' : World} {sent e : Value} {bs : List UInt8} {rows : List (List UInt8)} {C : List Value} {bad badN : Bool} {n : Nat} (hout : fs.Out wN (fun b => w.heap.size + 1 ≤ b) rows C bad badN)
    (hs : (bad = false ∧ splitB bs = some rows) ∨ (bad = true ∧ ∀ l, splitB bs = some l → l.length ≠ n)) (hn : fs.len = n) (he : Err wN (fun b => w.heap.size + 1 ≤ b) sent badN e) (hb : Below w.heap.size w wN) (hc : Chg (fun b => b = w.heap.size) wN w') :
    ReadOut (.tup fs) w sent bs (.returned (.tuple #[.agg C.toArray, e])) w' := by
  have hk : ∀ b, w.heap.size + 1 ≤ b → b < wN.heap.size → b < w'.heap.size ∧ w'.heap[b]? = wN.heap[b]? := fun b hb hlt => ⟨Nat.lt_of_lt_of_le hlt hc.size, hc.block b hlt fun e => by omega⟩
  exact ⟨C, e, badN, rfl, hb.trans (hc.below hb.size fun b h => Nat.le_of_eq h.symm), he.to hk fun b hb _ => by omega, Fs.Out.tup (n := n) (hout.to hk fun b hb _ => by omega) hs fun l x h => hn ▸ Fs.decs_len fs l x h⟩

end Go.Proofs.YtjjgmkfkmckkoabGreatDoor

/- Codec: a number read alone. -/
namespace Go.Proofs.YtjjgmkfkmckkoabGreatDoor
open Go.RowKit Go.Maps

theorem ReadOut.one {s : Sh} {w : World} {sent : Value} {b : List UInt8} {e : Ending} {w' : World} (hs : ∀ y, s.val [y] = y) (h1 : s.cells = 1) (h : ReadOut s w sent b e w') :
    ∃ y err bad, e = .returned (.tuple #[y, err]) ∧ y.oneCell' = true ∧ Below w.heap.size w w' ∧ Err w' (fun b => w.heap.size ≤ b) sent bad err ∧ SOut s w' (fun b => w.heap.size ≤ b) b [y] false bad := by
  obtain ⟨cs, err, bad, rfl, hb, he, ho⟩ := h
  obtain ⟨y, rfl⟩ : ∃ y, cs = [y] := by
    have := ho.1
    rw [h1] at this
    exact List.length_eq_one_iff.1 this
  exact ⟨y, err, bad, by rw [hs], ho.2.1 y (by simp), hb, he, ho⟩
theorem ReadOut.agg {s : Sh} {w : World} {sent : Value} {b : List UInt8} {e : Ending} {w' : World} (hs : ∀ c, s.val c = .agg c.toArray) (h : ReadOut s w sent b e w') :
    ∃ c err bad, e = .returned (.tuple #[.agg c.toArray, err]) ∧ (∀ v ∈ c, v.oneCell' = true) ∧ c.length = s.cells ∧ Below w.heap.size w w' ∧ Err w' (fun b => w.heap.size ≤ b) sent bad err ∧ SOut s w' (fun b => w.heap.size ≤ b) b c false bad := by
  obtain ⟨cs, err, bad, rfl, hb, he, ho⟩ := h
  exact ⟨cs, err, bad, by rw [hs], ho.2.1, ho.1, hb, he, ho⟩
theorem SOut.or_ {s : Sh} {w : World} {S : Nat → Prop} {b : List UInt8} {cs : List Value} {bd : Bool} (h : SOut s w S b cs false bd) (bad : Bool) : SOut s w S b cs bad (bad || bd) := by
  obtain ⟨h1, h2, h3⟩ := h
  refine ⟨h1, h2, h3.imp (fun ⟨x, e1, e2, e3⟩ => ⟨x, e1, by rw [e2, Bool.or_false], e3⟩) fun ⟨e1, e2⟩ => ⟨e1, by rw [e2, Bool.or_true]⟩⟩
/-- Parts of one row that came in. -/
theorem Pt.single {w : World} {S : Nat → Prop} {sent : Value} {A : Option Addr} {cap : Nat} {bs : List UInt8} (h : Bs w S (.slice A bs.length cap) bs) (hg : Gl w sent) :
    Pt ((w.alloc (.cells #[.slice A bs.length cap] 50)).alloc (.cells #[.slice (some ⟨w.heap.size, 0, none⟩) 1 1, .nilIface] 133)) (fun b => b = w.heap.size + 1) w.heap.size (w.heap.size + 1) sent [bs] false := by
  have hb := (Below.refl w.heap.size w).alloc (Nat.le_refl _) (.cells #[.slice A bs.length cap] 50)
  have hb2 := hb.alloc (by simp) (.cells #[.slice (some ⟨w.heap.size, 0, none⟩) 1 1, .nilIface] 133)
  have hk := Blk.new (w.alloc (.cells #[.slice A bs.length cap] 50)) 133 #[.slice (some ⟨w.heap.size, 0, none⟩) 1 1, .nilIface]
  rw [show (w.alloc (.cells #[.slice A bs.length cap] 50)).heap.size = w.heap.size + 1 by simp] at hk
  have hlt := hg.lt
  have hr := Cs.of_new w 50 (size := 1) 1 (cs := [.slice A bs.length cap]) rfl (by simp only [maxLen]; decide)
  refine ⟨hg.below hb2, fun h => by omega, rfl, fun b h => by rw [h]; simp, by simp; omega, _, _, hk, ?_, .inl ⟨rfl, rfl⟩⟩
  refine ⟨[.slice A bs.length cap], (hr.sub (T := fun b => ¬ b = w.heap.size + 1) fun b hb _ => by omega).below ((Below.refl _ _).alloc (Nat.le_refl _) _), fun i x u h1 h2 => ?_⟩
  cases i with
  | zero =>
    simp only [List.getElem?_cons_zero, Option.some.injEq] at h1 h2
    subst h1 h2
    exact ⟨(h.below hb2).1.sub' h.1 fun b _ hlt => by omega, h.2⟩
  | succ i => simp at h1

theorem ReadOut.single {s : Sh} {w w1 : World} {sent y e9 : Value} {bs : List UInt8} {o1 o2 : Obj} {bad : Bool} {k : Nat} (hs : ∀ y, s.val [y] = y) (hc : Chg (fun k => k = w.heap.size + 1) ((w.alloc o1).alloc o2) w1)
    (he : Err w1 (fun b => w.heap.size ≤ b) sent bad e9) (ho : SOut s w1 (fun b => ((w.alloc o1).alloc o2).heap.size ≤ b) bs [y] false bad) : ReadOut s w sent bs (.returned (.tuple #[y, e9])) (w1.drewN k) := by
  have hb := ((Below.refl w.heap.size w).alloc (Nat.le_refl _) o1).alloc (by simp) o2
  refine ⟨[y], e9, bad, by rw [hs], below_drewN (hb.trans (hc.below hb.size fun b h => by omega)) k, he.to (fun b _ hlt => ⟨hlt, rfl⟩) fun b hb _ => hb, ho.to (fun b _ hlt => ⟨hlt, rfl⟩) fun b hb' _ => Nat.le_trans hb.size hb'⟩

set_option maxRecDepth 100000 in
theorem readNum_any (w : World) {S : Nat → Prop} {v sent : Value} {bs : List UInt8} (h : Bs w S v bs) (_hlen : bs.length ≤ 262144) (hg : Gl w sent) :
    Calls Tryz.prog 82 #[v] w (ReadOut i64 w sent bs) := by
  obtain ⟨A, cap, rfl⟩ := h.form
  have H := Lib.hid (int_any _ (Pt.single h hg)); clear h hg
  go_enter Tryz.func82, Tryz.ntmps82
  go_wp2_with fail
  refine H.out.mono ?_
  rintro e w1 ht
  obtain ⟨y, bad, rfl, h1, hc, hp, ho⟩ := ht.one (fun _ => rfl) rfl
  obtain ⟨v9, e9, hblk, herr⟩ := hp.parts
  have hcc := hblk.cell
  have HO := Lib.hid ho
  have HE := Lib.hid herr
  clear ho herr hp H ht hblk
  go_wp2_with fail
  go_quiet (fail)
  go_wp2_with fail
  go_ret2
  exact ReadOut.single (fun _ => rfl) hc HE.out HO.out

end Go.Proofs.YtjjgmkfkmckkoabGreatDoor

/- Codec: an error's number (told). -/
namespace Go.Proofs.YtjjgmkfkmckkoabGreatDoor
open Go.RowKit

/-- The package's variables, as they are laid. -/
def Pk (w : World) (sent : Value) : Prop := Gl w sent ∧ ∃ (a b : Addr) (ca cb : Array Value) (ta tb : TypeId), sent = .iface 205 (.pointer (some a)) ∧ a ≠ b ∧ w.heap[a.block]? = some (.cells ca ta (0, 0)) ∧ w.heap[b.block]? = some (.cells cb tb (0, 0)) ∧
  w.cell? ⟨0, 0, none⟩ = some (.iface 205 (.pointer (some b))) ∧ w.cell? ⟨2, 0, none⟩ = some (.iface 190 (.agg #[.pointer (some ⟨nG, 115, none⟩)]))
theorem cell_low {w w' : World} {k : Nat} {v : Value} (h : w.cell? ⟨k, 0, none⟩ = some v) (hb : Below w.heap.size w w') : w'.cell? ⟨k, 0, none⟩ = some v := by
  have hlt : k < w.heap.size := by
    rcases Nat.lt_or_ge k w.heap.size with h1 | h1
    · exact h1
    · simp only [World.cell?] at h; rw [Array.getElem?_eq_none h1] at h; cases h
  exact (World.cell?_of_block (a := ⟨k, 0, none⟩) (hb.block k hlt)).trans h
theorem heap_low {w w' : World} {k : Nat} {o : Obj} (h : w.heap[k]? = some o) (hb : Below w.heap.size w w') : w'.heap[k]? = some o := by
  have hlt : k < w.heap.size := by
    rcases Nat.lt_or_ge k w.heap.size with h1 | h1
    · exact h1
    · rw [Array.getElem?_eq_none h1] at h; cases h
  exact (hb.block k hlt).trans h
theorem Pk.below {w w' : World} {sent : Value} (h : Pk w sent) (hb : Below w.heap.size w w') : Pk w' sent := by
  obtain ⟨h1, a, b, ca, cb, ta, tb, h2, h3, h4, h5, h6, h7⟩ := h
  exact ⟨h1.below hb, a, b, ca, cb, ta, tb, h2, h3, heap_low h4 hb, heap_low h5 hb, cell_low h6 hb, cell_low h7 hb⟩

/-- An error of this package; r: is it of too many bytes? -/
def Wr (w : World) (sent : Value) (e : Value) (r : Bool) : Prop := ∃ (g n : Nat) (s : Value), e = .iface 113 (.pointer (some ⟨g, 0, none⟩)) ∧ Links w s e n ∧ (if r then w.cell? ⟨0, 0, none⟩ = some s else s = sent)
theorem Links.low {w w' : World} {s e : Value} {n : Nat} (h : Links w s e n) (hb : Below w.heap.size w w') : Links w' s e n := by
  induction h with
  | last => exact .last
  | more h1 _ ih => exact .more (h1.below hb h1.lt) ih
theorem Wr.low {w w' : World} {sent e : Value} {r : Bool} (h : Wr w sent e r) (hb : Below w.heap.size w w') : Wr w' sent e r := by
  obtain ⟨g, n, s, h1, h2, h3⟩ := h
  refine ⟨g, n, s, h1, h2.low hb, ?_⟩
  cases r
  · exact h3
  · exact cell_low h3 hb
theorem Wr.of_chain {w : World} {S : Nat → Prop} {sent e : Value} (h : Chain w S sent e) : Wr w sent e false := by
  obtain ⟨g, rfl⟩ := h.form
  obtain ⟨n, hl⟩ := Links.of_chain h
  exact ⟨g, n + 1, sent, rfl, hl, rfl⟩
theorem Wr.fresh {w : World} {sent v : Value} (h : w.cell? ⟨0, 0, none⟩ = some v) (what : Value) : Wr (w.alloc (.cells #[what, v] 117)) sent (.iface 113 (.pointer (some ⟨w.heap.size, 0, none⟩))) true :=
  ⟨w.heap.size, 1, v, rfl, .more (Blk.new w _ _) .last, cell_low h ((Below.refl _ w).alloc (Nat.le_refl _) _)⟩

set_option maxRecDepth 1000000 in
theorem told_any (w : World) {sent e : Value} {r : Bool} (hp : Pk w sent) (he : Wr w sent e r) :
    Calls Tryz.prog 62 #[e] w fun en w' => en = .returned (.int .i64 (if r then 4 else 5)) ∧ Below w.heap.size w w' := by
  have hal := (Below.refl w.heap.size w).alloc (Nat.le_refl _) (.cells #[.pointer none] 113)
  have hp0 := hp.below hal
  have he0 := he.low hal
  obtain ⟨hgl, a, b, ca, cb, ta, tb, hse, hab, ha, hb, hcb, hty⟩ := hp0
  obtain ⟨g, n, s, rfl, hl, hs⟩ := he0
  have hcb0 : w.cell? ⟨0, 0, none⟩ = some (.iface 205 (.pointer (some b))) := by
    obtain ⟨_, a', b', ca', cb', ta', tb', _, _, _, _, h6, _⟩ := hp
    have := cell_low h6 hal
    rw [hcb] at this
    injection this with this
    injection this with _ h1
    injection h1 with h1
    injection h1 with h1
    rw [h1]; exact h6
  have hlt0 : 0 < w.heap.size := by
    rcases Nat.lt_or_ge 0 w.heap.size with h1 | h1
    · exact h1
    · simp only [World.cell?] at hcb0; rw [Array.getElem?_eq_none h1] at hcb0; cases hcb0
  have HAL := Lib.hid hal
  have HTY := Lib.hid hty
  cases r
  · simp only [Bool.false_eq_true, if_false] at hs
    subst hs
    subst hse
    have HI := Lib.hid (is_any a b ca cb ta tb ha hb hl false (decide_eq_false hab).symm)
    clear hp he hgl ha hb hl hal hcb hty
    go_enter Tryz.func62, Tryz.ntmps62
    go_wp2_with fail
    refine HI.out.mono ?_
    rintro e w1 ⟨rfl, hw1⟩
    obtain rfl := hw1
    go_wp2_with fail
    refine (as_hit ⟨g, 0, none⟩ ⟨w.heap.size, 0, none⟩ (.pointer none) _ HTY.out (by simp) (by simp)).mono ?_
    rintro e w2 ⟨rfl, hw2⟩
    have hb2 : Below w.heap.size w w2 := by
      subst hw2
      exact (((((HAL.out.alloc HAL.out.size _).alloc (by simp; omega) _).alloc (by simp; omega) _).alloc (by simp; omega) _)).setCell (by simp) _
    clear hw2
    go_wp2_with fail
    go_ret
    exact ⟨rfl, hb2⟩
  · simp only [if_true] at hs
    rw [hcb] at hs
    injection hs with hs
    subst hs
    have HI := Lib.hid (is_any b b cb cb tb tb hb hb hl true (decide_eq_true rfl).symm)
    clear hp he hgl ha hb hl hal hcb hty
    go_enter Tryz.func62, Tryz.ntmps62
    go_wp2_with fail
    refine HI.out.mono ?_
    rintro e w1 ⟨rfl, hw1⟩
    obtain rfl := hw1
    go_wp2_with fail
    go_ret
    exact ⟨rfl, HAL.out⟩

theorem Effects.world {P : Program} {ops : Array Oper} {Q : Exit → Act → World → Prop} {S : World → Prop} {E T : List Oper} {a : Act} {F : World → Prop} (h : ∀ W, F W → Effects P ops Q S E T a W) {w : World} (hF : F w) : Effects P ops Q S E T a w := h w hF
/-- What a Read answers. -/
def FaceOut (s : Sh) (w : World) (bs : List UInt8) (e : Ending) (w' : World) : Prop :=
  Below w.heap.size w w' ∧ ∃ (cs : List Value) (n : Int), e = .returned (.tuple #[.agg cs.toArray, .int .i64 n]) ∧ cs.length = s.cells ∧ (∀ v ∈ cs, v.oneCell' = true) ∧
    ((262144 < bs.length ∧ n = 4) ∨ (bs.length ≤ 262144 ∧ ((∃ x, s.dec bs = some x ∧ n = 0 ∧ s.rep w' (fun b => w.heap.size ≤ b) x cs) ∨ (s.dec bs = none ∧ n = 5))))

end Go.Proofs.YtjjgmkfkmckkoabGreatDoor

/- Codec: what the row's list of laid variables gives; a world that meets it. -/
namespace Go.Proofs.YtjjgmkfkmckkoabGreatDoor
open Go.ChangeShapes Go.WideShapes Go.ChangeAt Go.RowKit

theorem pk_gF : Tryz.prog.globalNamed "wapentake/codec.errForm" = some 1 := by kernel_rfl
theorem pk_gB : Tryz.prog.globalNamed "wapentake/codec.errBytes" = some 0 := by kernel_rfl
theorem pk_gH : Tryz.prog.globalNamed "errors.errorType" = some 2 := by kernel_rfl
theorem pk_gFt : (Tryz.prog.globals[1]?).map (·.type) = some 115 := by kernel_rfl
theorem pk_gBt : (Tryz.prog.globals[0]?).map (·.type) = some 115 := by kernel_rfl
theorem pk_rt : (Tryz.prog.cutTypes.find? (·.1 == "internal/reflectlite.rtype")).map (·.2) = some 190 := by kernel_rfl
theorem pk_rows : ((List.range Tryz.prog.types.size).filter fun t => Tryz.prog.rowNamed t [101, 114, 114, 111, 114]) = [115] := by kernel_rfl
theorem pk_cells1 : Tryz.prog.cellsOf 226 = 1 := by kernel_rfl
theorem pk_cells2 : Tryz.prog.cellsOf 9 = 1 := by kernel_rfl
theorem pk_star : "*" ++ "errors.errorString" = "*errors.errorString" := by decide
theorem pk_row (u : TypeId) (h : Tryz.prog.typeName? 3 u = some "*errors.errorString") : u = 205 :=
  typeName_ptr_named (nm := "errors.errorString") (by rw [pk_star]; kernel_rfl) (by kernel_rfl) (by decide) u (by rw [pk_star]; exact h)

def codecLaid : List (String × DataW Unit) := [("errors.errorType", Rows.laid_errors_errorType), ("wapentake/codec.errForm", Rows.laid_wapentake_codec_errForm), ("wapentake/codec.errBytes", Rows.laid_wapentake_codec_errBytes)]

theorem pk_of_laid {W : World} (h : laidMetH Tryz.prog codecLaid W) : ∃ sent, Pk W sent := by
  have h' : laidMet Tryz.prog [("wapentake/codec.errForm", Rows.laid_wapentake_codec_errForm), ("wapentake/codec.errBytes", Rows.laid_wapentake_codec_errBytes)] W ∧ handlesMet Tryz.prog [("errors.errorType", Rows.laid_errors_errorType)] W := h
  obtain ⟨name, u, ty, e1, e2, e3, e4, e5⟩ := h'.2 _ (List.mem_singleton.2 rfl)
  have en : name = [101, 114, 114, 111, 114] := (Option.some.inj e1).symm
  subst en
  obtain rfl := Option.some.inj (pk_rt.symm.trans e2)
  have hm : ty ∈ (List.range Tryz.prog.types.size).filter fun t => Tryz.prog.rowNamed t [101, 114, 114, 111, 114] := List.mem_filter.2 ⟨List.mem_range.2 e3, e4⟩
  rw [pk_rows] at hm
  obtain rfl := List.mem_singleton.1 hm
  have hh : typeHandle Tryz.prog 115 = .pointer (some ⟨nG, 115, none⟩) := by kernel_rfl
  rw [hh] at e5
  have hty : W.cell? ⟨2, 0, none⟩ = some (.iface 190 (.agg #[.pointer (some ⟨nG, 115, none⟩)])) := by simpa using World.var?_cell pk_gH e5 0
  obtain ⟨a0, a1, s0, s1, c0, c1, t0, t1, hv0, hv1, hc0, hs0, hz0, hc1, hs1, hz1, hne, hb0, hb1⟩ := laid_sentinels2 h'.1 pk_gF pk_gFt pk_gB pk_gBt Tryz.underlying115 pk_row Tryz.underlying205 Tryz.underlying226 rfl rfl Tryz.underlying9 pk_cells1 pk_cells2
  have hg0 : W.cell? ⟨1, 0, none⟩ = some (.iface 205 (.pointer (some a0))) := by simpa using World.var?_cell pk_gF hv0 0
  have hg1 : W.cell? ⟨0, 0, none⟩ = some (.iface 205 (.pointer (some a1))) := by simpa using World.var?_cell pk_gB hv1 0
  exact ⟨_, ⟨⟨a0, rfl⟩, hg0⟩, a0, a1, c0, c1, t0, t1, rfl, hne, hb0, hb1, hg1, hty⟩

/-! ### A world that meets the list (for a witness) -/
abbrev formS : ByteArray := { data := #[110, 111, 32, 115, 117, 99, 104, 32, 102, 111, 114, 109] }
abbrev bytesS : ByteArray := { data := #[116, 111, 111, 32, 109, 97, 110, 121, 32, 98, 121, 116, 101, 115] }
noncomputable def codecLow : Nat := (World.holding Tryz.prog default ⟨#[], #[], []⟩).heap.size
noncomputable def codecWorld (os : Os) : World :=
  let w0 := World.holding Tryz.prog os ⟨#[.cells #[.string formS] 226, .cells #[.string bytesS] 226], #[], []⟩
  { w0 with heap := ((w0.heap.modify 1 fun
      | .cells _ t frozen => .cells #[.iface 205 (.pointer (some ⟨codecLow, 0, none⟩))] t frozen
      | o => o).modify 0 fun
      | .cells _ t frozen => .cells #[.iface 205 (.pointer (some ⟨codecLow + 1, 0, none⟩))] t frozen
      | o => o).modify 2 fun
      | .cells _ t frozen => .cells #[.iface 190 (.agg #[.pointer (some ⟨nG, 115, none⟩)])] t frozen
      | o => o }
theorem codecWorld_met (os : Os) (args : Array Value) : laidMetH Tryz.prog codecLaid ((codecWorld os).forCall (fun _ _ => 0) ⟨#[], args, []⟩).memory :=
  laidMetH_of_parts (laidMet_of_run (ps := [.cell 1 0, .cell codecLow 0, .cell 0 0, .cell (codecLow + 1) 0]) 8 (by kernel_rfl) (by kernel_rfl) (by kernel_rfl)) (by kernel_rfl)

end Go.Proofs.YtjjgmkfkmckkoabGreatDoor

/- Codec's reference: numbers as bytes, parts joined. -/
namespace Go.Proofs.YtjjgmkfkmckkoabGreatDoor
open Go.RowKit Go.Maps

theorem leBytes_get' : ∀ (k v i : Nat), i < k → (Lib.leBytes k v)[i]? = some ((v / 256 ^ i) % 256).toUInt8
  | 0, _, _, h => by omega
  | k + 1, v, 0, _ => by simp [Lib.leBytes]
  | k + 1, v, i + 1, h => by
    rw [Lib.leBytes, List.getElem?_cons_succ, leBytes_get' k (v / 256) i (by omega), Nat.div_div_eq_div_mul, Nat.pow_succ, Nat.mul_comm 256]
theorem be8_get (v i : Nat) (h : i < 8) : (be8 v)[i]? = some ((v / 2 ^ (56 - 8 * i)) % 256).toUInt8 := by
  rw [be8, Lib.beBytes, List.getElem?_reverse (by rw [Lib.leBytes_length]; omega), Lib.leBytes_length, leBytes_get' 8 v _ (by omega), show (256 : Nat) = 2 ^ 8 from rfl, ← Nat.pow_mul, show 8 * (8 - 1 - i) = 56 - 8 * i by omega]
theorem be8_byte (v i : Nat) (h : i < 8) : (((v / 2 ^ (56 - 8 * i)) % 256 : Nat) : Int) = (((be8 v)[i]'(by rw [be8_length]; exact h)).toNat : Int) := by
  have := be8_get v i h
  rw [List.getElem?_eq_getElem (by rw [be8_length]; exact h)] at this
  injection this with e
  rw [e, Nat.toUInt8, UInt8.toNat_ofNat']
  generalize v / 2 ^ (56 - 8 * i) = q
  congr 1
  omega

set_option maxHeartbeats 1000000 in
set_option maxRecDepth 100000 in
theorem rNum_any (w : World) (v : Nat) (_hv : v < 18446744073709551616) : Calls Tryz.prog 48 #[.int .u64 v] w fun e w' => ∃ v', e = .returned v' ∧ Fresh w w' v' (be8 v) := by
  have hby : ∀ k, k < 8 → ((v : Int) / 2 ^ (56 - 8 * k)) % 256 = (((be8 v).getD k 0).toNat : Int) := fun k hk => by
    have := be8_byte v k hk
    rw [List.getD_eq_getElem?_getD, List.getElem?_eq_getElem (by rw [be8_length]; exact hk), Option.getD_some, ← this]
    push_cast; rfl
  have hL : (be8 v).length = 8 := be8_length v
  obtain ⟨L, hLe⟩ : ∃ L, L = be8 v := ⟨_, rfl⟩
  rw [← hLe] at hby hL ⊢
  have HBY := Lib.hid hby
  have HL := Lib.hid hL
  clear hby hL hLe
  go_enter Tryz.func48, Tryz.ntmps48
  go_wp2_with fail
  go_loopw [3, 4] (fun o i wr => ∃ k : Nat, k ≤ 8 ∧ i = .int .i64 k ∧ Own wr 5 1 o k (u8s (L.take k)) ∧ (∀ b, o.ownBlock = some b → w.heap.size ≤ b) ∧ Below w.heap.size w wr) (fun _ i _ => 8 - (intOf i).toNat)
  case atStart =>
    have hal := (Below.refl w.heap.size w).alloc (Nat.le_refl _) (.cells #[] 5)
    exact ⟨0, by omega, rfl, Own.empty w 5 1, fun b hb => by simp [Value.ownBlock] at hb; omega, hal⟩
  case round =>
    obtain ⟨k, hk, rfl, ho, hob, hbl⟩ := hrel
    obtain ⟨Ao, co, rfl⟩ := ho.form
    have HO := Lib.hid ho
    have HOB := Lib.hid hob
    have HBL := Lib.hid hbl
    clear ho hob
    by_cases hlt : k < 8
    · have hbk := HBY.out k hlt
      obtain ⟨x, hx⟩ : ∃ x, x = L.getD k 0 := ⟨_, rfl⟩
      rw [← hx] at hbk
      have htk : L.take (k + 1) = L.take k ++ [x] := by
        rw [List.take_succ_eq_append_getElem (by rw [HL.out]; exact hlt), hx, List.getD_eq_getElem?_getD, List.getElem?_eq_getElem (by rw [HL.out]; exact hlt), Option.getD_some]
      have HTK := Lib.hid htk
      have hal := (Below.refl wr.heap.size wr).alloc (Nat.le_refl _) (.cells #[.int .u8 x.toNat] 5)
      have HAL := Lib.hid hal
      have HO2 := Lib.hid (show Own (wr.alloc (.cells #[.int .u8 x.toNat] 5)) 5 1 (.slice Ao k co) k (u8s (L.take k)) from own_keep HO.out fun b hb => hal.block b (own_lt HO.out hb))
      have HS2 := Lib.hid (Cs.of_new wr 5 (size := 1) 1 (cs := [.int .u8 x.toNat]) rfl (by simp only [maxLen]; decide))
      clear hx htk hal
      go_wp2_with (at_builtin; refine wpList_app _ rfl _ _ _ rfl Tryz.underlying50 info_u8 rfl (by decide) HO2.out rfl HS2.out rfl (by simp [Value.oneCell']) (by simp only [maxLen]; omega) (by omega) ?_; intro v6 w6 ho6 hc6 hnil6 hat6; clear hnil6; have HO6 := Lib.hid ho6; clear ho6; have HC6 := Lib.hid hc6; clear hc6; have HAT6 := Lib.hid hat6; clear hat6)
      have hsz := HBL.out.size
      have hsa := HAL.out.size
      refine ⟨⟨k + 1, by omega, by push_cast; rfl, by rw [HTK.out]; simpa [u8s] using HO6.out, fun b hb => ?_, (HBL.out.trans (HAL.out.mono hsz)).trans (HC6.out.below (by omega) fun b h => HOB.out b h)⟩, by simp only [intOf]; omega⟩
      rcases HAT6.out with h | h
      · exact HOB.out b (h ▸ hb)
      · rw [h] at hb; injection hb with hb; omega
    · have hk' : k = 8 := by omega
      subst hk'
      go_wp2_with fail
      go_ret
      have h1 := HO.out
      rw [show L.take 8 = L from List.take_of_length_le (by rw [HL.out]; omega)] at h1
      exact ⟨_, rfl, Fresh.of_own (by rw [HL.out]; exact h1) HBL.out HOB.out (by rw [HL.out]; omega)⟩

set_option maxHeartbeats 1000000 in
set_option maxRecDepth 100000 in
theorem rnumber_any (w : World) (v : Nat) (_hv : v < 18446744073709551616) : Calls Tryz.prog 85 #[.int .u64 v, .int .i64 8] w fun e w' => ∃ v', e = .returned v' ∧ Own w' 5 1 v' 8 (u8s (be8 v)) ∧ (∀ b, v'.ownBlock = some b → w.heap.size ≤ b) ∧ Below w.heap.size w w' := by
  have hby : ∀ k, k < 8 → ((v : Int) / 2 ^ (8 * (7 - k))) % 256 = (((be8 v).getD k 0).toNat : Int) := fun k hk => by
    rw [show 8 * (7 - k) = 56 - 8 * k by omega]
    have := be8_byte v k hk
    rw [List.getD_eq_getElem?_getD, List.getElem?_eq_getElem (by rw [be8_length]; exact hk), Option.getD_some, ← this]
    push_cast; rfl
  have hL : (be8 v).length = 8 := be8_length v
  obtain ⟨L, hLe⟩ : ∃ L, L = be8 v := ⟨_, rfl⟩
  rw [← hLe] at hby hL ⊢
  have HBY := Lib.hid hby
  have HL := Lib.hid hL
  clear hby hL hLe
  go_enter Tryz.func85, Tryz.ntmps85
  go_wp2_with fail
  go_loopw [5, 6] (fun o i wr => ∃ k : Nat, k ≤ 8 ∧ i = .int .i64 (7 - (k : Int)) ∧ Own wr 5 1 o k (u8s (L.take k)) ∧ (∀ b, o.ownBlock = some b → w.heap.size ≤ b) ∧ Below w.heap.size w wr) (fun _ i _ => (intOf i + 1).toNat)
  case atStart =>
    have hal := (Below.refl w.heap.size w).alloc (Nat.le_refl _) (.cells #[] 5)
    exact ⟨0, by omega, rfl, Own.empty w 5 1, fun b hb => by simp [Value.ownBlock] at hb; omega, hal⟩
  case round =>
    obtain ⟨k, hk, rfl, ho, hob, hbl⟩ := hrel
    obtain ⟨Ao, co, rfl⟩ := ho.form
    have HO := Lib.hid ho
    have HOB := Lib.hid hob
    have HBL := Lib.hid hbl
    clear ho hob
    by_cases hlt : k < 8
    · have hbk := HBY.out k hlt
      obtain ⟨x, hx⟩ : ∃ x, x = L.getD k 0 := ⟨_, rfl⟩
      rw [← hx] at hbk
      have htk : L.take (k + 1) = L.take k ++ [x] := by
        rw [List.take_succ_eq_append_getElem (by rw [HL.out]; exact hlt), hx, List.getD_eq_getElem?_getD, List.getElem?_eq_getElem (by rw [HL.out]; exact hlt), Option.getD_some]
      have HTK := Lib.hid htk
      have hal := (Below.refl wr.heap.size wr).alloc (Nat.le_refl _) (.cells #[.int .u8 x.toNat] 5)
      have HAL := Lib.hid hal
      have HO2 := Lib.hid (show Own (wr.alloc (.cells #[.int .u8 x.toNat] 5)) 5 1 (.slice Ao k co) k (u8s (L.take k)) from own_keep HO.out fun b hb => hal.block b (own_lt HO.out hb))
      have HS2 := Lib.hid (Cs.of_new wr 5 (size := 1) 1 (cs := [.int .u8 x.toNat]) rfl (by simp only [maxLen]; decide))
      clear hx htk hal
      go_wp2_with (at_builtin; refine wpList_app _ rfl _ _ _ rfl Tryz.underlying50 info_u8 rfl (by decide) HO2.out rfl HS2.out rfl (by simp [Value.oneCell']) (by simp only [maxLen]; omega) (by omega) ?_; intro v6 w6 ho6 hc6 hnil6 hat6; clear hnil6; have HO6 := Lib.hid ho6; clear ho6; have HC6 := Lib.hid hc6; clear hc6; have HAT6 := Lib.hid hat6; clear hat6)
      have hsz := HBL.out.size
      have hsa := HAL.out.size
      refine ⟨⟨k + 1, by omega, by congr 1; push_cast; omega, by rw [HTK.out]; simpa [u8s] using HO6.out, fun b hb => ?_, (HBL.out.trans (HAL.out.mono hsz)).trans (HC6.out.below (by omega) fun b h => HOB.out b h)⟩, by simp only [intOf]; omega⟩
      rcases HAT6.out with h | h
      · exact HOB.out b (h ▸ hb)
      · rw [h] at hb; injection hb with hb; omega
    · have hk' : k = 8 := by omega
      subst hk'
      go_wp2_with fail
      go_ret
      have h1 := HO.out
      rw [show L.take 8 = L from List.take_of_length_le (by rw [HL.out]; omega)] at h1
      exact ⟨_, rfl, h1, HOB.out, HBL.out⟩

end Go.Proofs.YtjjgmkfkmckkoabGreatDoor

/- Codec's reference: parts joined. -/
namespace Go.Proofs.YtjjgmkfkmckkoabGreatDoor
open Go.RowKit Go.Maps

set_option maxHeartbeats 2000000 in
set_option maxRecDepth 100000 in
theorem rJoin_any (w : World) {S : Nat → Prop} {v : Value} {rows : List (List UInt8)} (h : Bsr w S v rows) (hl : (joinB rows).length ≤ 140737488355328) (hS : ∀ b, S b → b < w.heap.size) :
    Calls Tryz.prog 47 #[v] w fun e w' => ∃ v', e = .returned v' ∧ Fresh w w' v' (joinB rows) := by
  obtain ⟨A, cap, rfl⟩ := h.form
  have H := Lib.hid h; clear h
  have hc := joinP_count rows
  rw [joinB_length] at hl
  have HA := Lib.hid (rnumber_any w rows.length (by omega))
  have hw := u64_wrap_nat rows.length (by omega)
  go_enter Tryz.func47, Tryz.ntmps47
  go_wp2_with fail
  refine HA.out.mono ?_
  rintro e w1 ⟨v1, rfl, ho, hv, hb1⟩
  obtain ⟨B0, hB0⟩ : ∃ B0, B0 = be8 rows.length := ⟨_, rfl⟩
  have ho : Own w1 5 1 v1 (B0 ++ joinP (rows.take 0)).length (u8s (B0 ++ joinP (rows.take 0))) := by
    rw [List.take_zero, show joinP [] = [] from rfl, List.append_nil, hB0, be8_length]; exact ho
  have hB8 : B0.length = 8 := by rw [hB0, be8_length]
  have HB8 := Lib.hid hB8
  have HB0 := Lib.hid hB0
  clear hB8 hB0 hw HA
  go_wp2_with fail
  go_loopw [3, 4] (fun o i wr => ∃ k : Nat, k ≤ rows.length ∧ i = .int .i64 k ∧ Own wr 5 1 o (B0 ++ joinP (rows.take k)).length (u8s (B0 ++ joinP (rows.take k))) ∧ (∀ b, o.ownBlock = some b → w.heap.size ≤ b) ∧ Below w.heap.size w wr) (fun _ i _ => rows.length - (intOf i).toNat)
  case atStart => exact ⟨0, Nat.zero_le _, rfl, ho, hv, hb1⟩
  case round =>
    obtain ⟨k, hk, rfl, ho, hv, hbl⟩ := hrel
    by_cases hlt : k < rows.length
    · obtain ⟨ba, oa, ua, rfl, hca, hua, hblt, hSb⟩ := (H.out.below hbl).at_ hlt
      have hT := joinP_take_le rows k
      have hT1 := joinP_take_le rows (k + 1)
      have hts := joinP_take_succ rows k hlt
      obtain ⟨x, hx⟩ : ∃ x, x = rows[k] := ⟨_, rfl⟩
      rw [← hx] at hua hts
      have hlen : (joinP (rows.take (k + 1))).length = (joinP (rows.take k)).length + 8 + x.length := by rw [hts, List.length_append, List.length_append, be8_length]
      obtain ⟨J, hJ⟩ : ∃ J, J = joinP (rows.take k) := ⟨_, rfl⟩
      rw [← hJ] at ho hT hts hlen
      obtain ⟨J', hJ'⟩ : ∃ J', J' = joinP (rows.take (k + 1)) := ⟨_, rfl⟩
      rw [← hJ'] at hT1 hts hlen
      have hB8 := HB8.out
      have hx2 := hua.2
      obtain ⟨Ax, cx, rfl⟩ := hua.form
      have HNUM := Lib.hid (rnumber_any wr x.length (by omega))
      have HUA := Lib.hid hua
      have HV := Lib.hid hv
      have HTS := Lib.hid hts
      have hw := u64_wrap_nat x.length (by omega)
      obtain ⟨m, hm⟩ : ∃ m, m = (B0 ++ J).length := ⟨_, rfl⟩
      have hml : m + 8 + x.length ≤ 140737488355328 := by rw [hm, List.length_append]; omega
      have HML := Lib.hid hml
      have HM := Lib.hid hm
      rw [← hm] at ho
      obtain ⟨Ao, co, rfl⟩ := ho.form
      have HO := Lib.hid ho
      have HCA := Lib.hid hca
      clear hua hv hts hx hJ hlen hT hT1 hx2 hB8 ho hm
      go_wp2_with fail
      refine HNUM.out.mono ?_
      rintro e w2 ⟨v2, rfl, ho2, hv2, hb2⟩
      have HO2 := Lib.hid (show Own w2 5 1 (.slice Ao m co) m (u8s (B0 ++ J)) from own_keep HO.out fun b hb => hb2.block b (own_lt HO.out hb))
      have HS2 := Lib.hid (show Cs w2 (fun b => wr.heap.size ≤ b) 1 v2 8 (u8s (be8 x.length)) from Cs.of_own ho2 hv2)
      obtain ⟨A2, c2, rfl⟩ := ho2.form
      have HUA2 := Lib.hid (HUA.out.below hb2)
      have hca2 : w2.cell? ⟨ba, oa + k, none⟩ = some (.slice Ax x.length cx) := (World.cell?_of_block (a := ⟨ba, oa + k, none⟩) (hb2.block ba hblt)).trans hca
      have HCA2 := Lib.hid hca2
      clear hw ho2 hca2 hca
      have hsb := hbl.size
      have hs2 := hb2.size
      go_wp2_with (first
        | (at_builtin; refine wpList_app _ rfl _ _ _ rfl Tryz.underlying50 info_u8 rfl (by decide) HO2.out rfl HS2.out rfl (u8s_one _) (by have := HML.out; simp only [maxLen]; omega) (by have := HML.out; omega) ?_; intro v3 w3 ho3 hg3 hnil3 hat3; clear hnil3
           obtain ⟨A3, c3, rfl⟩ := ho3.form
           have HO3 := Lib.hid ho3; clear ho3; have HG3 := Lib.hid hg3; clear hg3; have HAT3 := Lib.hid hat3; clear hat3
           have hca3 : w3.cell? ⟨ba, oa + k, none⟩ = some (.slice Ax x.length cx) := (World.cell?_of_block (a := ⟨ba, oa + k, none⟩) (HG3.out.block ba (Nat.lt_of_lt_of_le hblt hs2) fun h => by have h1 := HV.out ba h; have h2 := hS ba hSb; omega)).trans HCA2.out
           have HUA3 := Lib.hid (HUA2.out.chg HG3.out fun b hb h => by have h1 := HV.out b h; have h2 := hS b hb; omega))
        | (at_builtin; refine wpList_app _ rfl _ _ _ rfl Tryz.underlying50 info_u8 rfl (by decide) HO3.out rfl HUA3.out.1 rfl (u8s_one _) (by have := HML.out; simp only [maxLen]; omega) (by have := HML.out; omega) ?_; intro v4 w4 ho4 hg4 hnil4 hat4; clear hnil4
           have HO4 := Lib.hid ho4; clear ho4; have HG4 := Lib.hid hg4; clear hg4; have HAT4 := Lib.hid hat4; clear hat4))
      have hv3 : ∀ b, (Value.slice A3 (m + 8) c3).ownBlock = some b → w.heap.size ≤ b := fun b hb => HAT3.out.elim (fun h => HV.out b (h ▸ hb)) fun h => by rw [h] at hb; injection hb with hb; omega
      have hs3 := HG3.out.size
      have hv4 : ∀ b, v4.ownBlock = some b → w.heap.size ≤ b := fun b hb => HAT4.out.elim (fun h => hv3 b (h ▸ hb)) fun h => by rw [h] at hb; injection hb with hb; omega
      have hbl3 : Below w.heap.size w w3 := (hbl.trans (hb2.mono hsb)).trans (HG3.out.below (by omega) fun b h => HV.out b h)
      refine ⟨⟨k + 1, by omega, by push_cast; rfl, ?_, hv4, hbl3.trans (HG4.out.below hbl3.size fun b h => hv3 b h)⟩, by simp only [intOf]; omega⟩
      have h1 := HO4.out
      have h2 : u8s (B0 ++ J) ++ u8s (be8 x.length) ++ u8s x = u8s (B0 ++ J') := by rw [HTS.out]; simp [u8s]
      have h3 : m + 8 + x.length = (B0 ++ J').length := by rw [HTS.out, HM.out]; simp [be8_length]; omega
      rw [h2, h3] at h1
      exact hJ' ▸ h1
    · have hk' : k = rows.length := by omega
      subst hk'
      rw [List.take_length] at ho
      have HO := Lib.hid ho
      have HV := Lib.hid hv
      clear ho hv
      go_wp2_with fail
      go_ret
      have h1 := HO.out
      have h2 : B0 ++ joinP rows = joinB rows := by rw [HB0.out]; rfl
      rw [h2] at h1
      exact ⟨_, rfl, Fresh.of_own h1 hbl HV.out (by rw [joinB_length]; omega)⟩

end Go.Proofs.YtjjgmkfkmckkoabGreatDoor

/- Codec: list[int]. -/
namespace Go.Proofs.YtjjgmkfkmckkoabGreatDoor
open Go.RowKit Go.Maps

set_option maxHeartbeats 2000000 in
set_option maxRecDepth 100000 in
theorem listInt_any (w : World) {S : Nat → Prop} {v : Value} {l : List (i64).El} (h : (Sh.list i64).rep w S l [v]) (hl : ((Sh.list i64).enc l).length ≤ 1099511627776) :
    Calls Tryz.prog 80 #[v, .func (Fn.func 28) #[] #[]] w fun e w' => ∃ v', e = .returned v' ∧ Fresh w w' v' ((Sh.list i64).enc l) := by
  obtain ⟨A, cap, rfl, hlen, hat⟩ := list_at h
  have H := Lib.hid h; clear h
  have hl' : (joinB (l.map (i64).enc)).length ≤ 1099511627776 := hl
  have hcnt := joinP_count (l.map (i64).enc)
  rw [joinB_length] at hl'
  rw [List.length_map] at hcnt
  have HLL := Lib.hid hl
  clear hl hat
  go_enter Tryz.func80, Tryz.ntmps80
  go_wp2_with fail
  go_loopw [5, 10] (fun a i wr => ∃ k : Nat, k ≤ l.length ∧ i = .int .i64 k ∧ Bss wr (fun b => w.heap.size ≤ b) (fun b => w.heap.size ≤ b) a ((l.take k).map (i64).enc) ∧ Below w.heap.size w wr) (fun _ i _ => l.length - (intOf i).toNat)
  case atStart => exact ⟨0, Nat.zero_le _, rfl, Bss.nil_ _ _ _, Below.refl _ _⟩
  case round =>
    obtain ⟨k, hk, rfl, hB, hbl⟩ := hrel
    by_cases hlt : k < l.length
    · obtain ⟨R, hR⟩ : ∃ R, R = (l.take k).map (i64).enc := ⟨_, rfl⟩
      rw [← hR] at hB
      have hRl : R.length = k := by rw [hR, List.length_map, List.length_take]; omega
      have hnext : (l.take (k + 1)).map (i64).enc = R ++ [(i64).enc l[k]] := by rw [List.take_succ_eq_append_getElem hlt, List.map_append, ← hR]; rfl
      obtain ⟨Aa, ca, rfl⟩ := hB.form
      obtain ⟨_, _, e, _, hat⟩ := list_at (Sh.rep_below H.out hbl)
      injection e with e1 e2 e3
      subst e1 e3
      obtain ⟨b, off, c, rfl, hca, hr, hcl, _, _⟩ := hat k hlt
      obtain ⟨x, hx⟩ : ∃ x, x = l[k] := ⟨_, rfl⟩
      rw [← hx] at hr hnext
      obtain ⟨rfl, _⟩ := hr
      have hcell := Lies.one hca
      have hcell : wr.cell? ⟨b, off + k, none⟩ = some (.int .i64 x) := by simpa [Sh.cells, nk] using hcell
      have hown : ∀ k, (Value.slice Aa R.length ca).ownBlock = some k → k < wr.heap.size := fun k hk => by obtain ⟨vs, ho, _⟩ := hB; exact own_lt ho hk
      have HB := Lib.hid hB
      have HN := Lib.hid hnext
      have HRL := Lib.hid hRl
      have HOWN := Lib.hid hown
      clear hB hca hcl hat hx hR hnext hRl hown
      go_wp2_with fail
      refine (numInt_any _ _).mono ?_
      rintro e w1 ⟨v1, rfl, f1⟩
      have hb1 := hbl.trans (f1.2.mono hbl.size)
      obtain ⟨y, hy⟩ : ∃ y, y = (i64).enc x := ⟨_, rfl⟩
      have f1 : Fresh wr w1 v1 y := hy ▸ f1
      rw [← hy] at HN
      obtain ⟨A1, c1, rfl⟩ := f1.1.form
      obtain ⟨vs, ho, hS, hr⟩ := HB.out.below f1.2
      have hsz1 := f1.2.size
      have hal : Below w1.heap.size w1 (w1.alloc (.cells #[.slice A1 y.length c1] 50)) := (Below.refl _ w1).alloc (Nat.le_refl _) _
      have HAL := Lib.hid hal
      have HO := Lib.hid (show Own (w1.alloc (.cells #[.slice A1 y.length c1] 50)) _ _ _ _ _ from own_keep ho fun k hk => hal.block k (own_lt ho hk))
      have HS := Lib.hid hS
      have HR := Lib.hid (fun i x u h1 h2 => (hr i x u h1 h2).below hal)
      have HU := Lib.hid ((f1.1.1.below hal).sub (T := fun b => w.heap.size ≤ b ∧ (Value.slice Aa R.length ca).ownBlock ≠ some b) fun b hb _ => ⟨Nat.le_trans hbl.size hb.1, fun e => by have := HOWN.out b e; omega⟩)
      have HS2 := Lib.hid (Cs.of_new w1 50 (size := 1) 1 (cs := [.slice A1 y.length c1]) rfl (by simp only [maxLen]; decide))
      have H63 := Lib.hid (show R.length + 1 ≤ maxLen ∧ (R.length + 1) * 24 ≤ 140737488355328 from by have := HRL.out; refine ⟨by simp only [maxLen]; omega, by omega⟩)
      clear ho hS hr hal f1 hy
      go_wp2_with (at_builtin; refine wpList_app _ rfl _ _ _ rfl Tryz.underlying103 info_row rfl (by decide) HO.out rfl HS2.out rfl (by simp [Value.oneCell']) H63.out.1 H63.out.2 ?_; intro v3 w3 ho3 hg3 hnil3 hat3; clear hnil3; have HO3 := Lib.hid ho3; clear ho3; have HG3 := Lib.hid hg3; clear hg3; have HAT3 := Lib.hid hat3; clear hat3)
      have hpush := Bss.push HO.out HS.out HR.out HU.out HO3.out HG3.out HAT3.out (by have := hb1.size; have := HAL.out.size; omega)
      rw [← HN.out] at hpush
      refine ⟨⟨k + 1, by omega, by push_cast; rfl, hpush, (hb1.trans (HAL.out.mono hb1.size)).trans (HG3.out.below (Nat.le_trans hb1.size HAL.out.size) fun b h => HS.out b h)⟩, ?_⟩
      simp only [intOf]
      omega
    · have hk' : k = l.length := by omega
      rw [hk', List.take_length] at hB
      have hsm : ∀ x ∈ l.map (i64).enc, x.length ≤ 140737488355328 := fun x hx => by have := joinP_mem hx; omega
      have hj := join_any _ ((hB.read hsm).lt_ (T := fun b => w.heap.size ≤ b) fun b h => h.elim id id) (by rw [joinB_length]; omega) fun b h => h.2
      have HJ := Lib.hid hj
      obtain ⟨R, hR⟩ : ∃ R, R = l.map (i64).enc := ⟨_, rfl⟩
      have HR := Lib.hid hR
      rw [← hR] at hB HJ
      obtain ⟨Aa, ca, rfl⟩ := hB.form
      clear hj hB hR hsm
      go_wp2_with fail
      refine HJ.out.mono ?_
      rintro e w1 ⟨v1, rfl, f1⟩
      go_wp2_with fail
      go_ret
      refine ⟨v1, rfl, ?_, hbl.trans (f1.2.mono hbl.size)⟩
      have := f1.1.sub (T := fun b => w.heap.size ≤ b ∧ Th w1 b) fun b hb _ => ⟨Nat.le_trans hbl.size hb.1, hb.2⟩
      rw [HR.out] at this
      exact this

theorem nums_any (w : World) {S : Nat → Prop} {v : Value} {l : List i64.El} (h : (Sh.list i64).rep w S l [v]) (hl : ((Sh.list i64).enc l).length ≤ 1099511627776) :
    Calls Tryz.prog 40 #[v] w fun e w' => ∃ v', e = .returned v' ∧ Fresh w w' v' ((Sh.list i64).enc l) := by
  have hj := listInt_any w h hl
  have HJ := Lib.hid hj; clear hj
  go_enter Tryz.func40, Tryz.ntmps40
  go_wp2_with fail
  refine HJ.out.mono ?_
  rintro e w1 ⟨v1, rfl, f1⟩
  go_wp2_with fail
  go_ret
  exact ⟨v1, rfl, f1⟩

end Go.Proofs.YtjjgmkfkmckkoabGreatDoor

/- Codec's reference: what its encoders' walks share. -/
namespace Go.Proofs.YtjjgmkfkmckkoabGreatDoor
open Go.RowKit Go.Maps

theorem Bs.of_range {w : World} {S : Nat → Prop} {b off : Nat} {x : List UInt8} (hS : S b) (hlt : b < w.heap.size) (h : w.rangeAt b off (u8s x)) (hl : x.length ≤ 1000) : Bs w S (.slice (some ⟨b, off, none⟩) x.length x.length) x :=
  ⟨⟨by simp [u8s], _, _, rfl, Nat.le_refl _, by simp only [maxLen]; omega, fun _ => ⟨b, off, rfl, hS, hlt, fun j u hj => h j u hj⟩⟩, by omega⟩
theorem Bs.of_range32 {w : World} {S : Nat → Prop} {b off : Nat} {x : List UInt8} (hS : S b) (hlt : b < w.heap.size) (h : w.rangeAt b off (u8s x)) (hl : x.length = 32) : Bs w S (.slice (some ⟨b, off, none⟩) 32 32) x := by
  have := Bs.of_range hS hlt h (by omega)
  rwa [hl] at this
theorem Bss.empty (w : World) (S T : Nat → Prop) (hS : S w.heap.size) : Bss (w.alloc (.cells #[] 50)) S T (.slice (some ⟨w.heap.size, 0, none⟩) 0 0) [] :=
  ⟨[], Own.empty w 50 1, fun k h => by simp [Value.ownBlock] at h; exact h ▸ hS, fun i x u h => by simp at h⟩
theorem Bss.empty1 (w : World) (o : Obj) : Bss ((w.alloc o).alloc (.cells #[] 50)) (fun b => w.heap.size + 1 ≤ b) (fun b => w.heap.size + 1 ≤ b) (.slice (some ⟨w.heap.size + 1, 0, none⟩) 0 0) [] := by
  have := Bss.empty (w.alloc o) (fun b => w.heap.size + 1 ≤ b) (fun b => w.heap.size + 1 ≤ b) (by simp)
  rwa [show (w.alloc o).heap.size = w.heap.size + 1 by simp] at this
theorem Bsr.drew_ {w : World} {S : Nat → Prop} {v : Value} {rows : List (List UInt8)} (h : Bsr w S v rows) : Bsr w.drew S v rows := by
  obtain ⟨vs, h1, h2⟩ := h
  exact ⟨vs, h1, h2⟩
theorem rNumI_any (w : World) (n : Int) : Calls Tryz.prog 48 #[.int .u64 (IntKind.u64.wrap n)] w fun e w' => ∃ v', e = .returned v' ∧ Fresh w w' v' (numB n) := by
  have := rNum_any w (n % 18446744073709551616).toNat (by omega)
  rw [show (((n % 18446744073709551616).toNat : Nat) : Int) = IntKind.u64.wrap n from by rw [show IntKind.u64 = nk false from rfl, wrap_u]; omega] at this
  exact this
theorem rNumU_any (w : World) (n : Int) (hn : (nk false).wrap n = n) : Calls Tryz.prog 48 #[.int .u64 n] w fun e w' => ∃ v', e = .returned v' ∧ Fresh w w' v' (numB n) := by
  have := rNumI_any w n
  rw [show IntKind.u64 = nk false from rfl, hn] at this
  exact this

end Go.Proofs.YtjjgmkfkmckkoabGreatDoor

/- Codec: reference: a header. -/
namespace Go.Proofs.YtjjgmkfkmckkoabGreatDoor
open Go.RowKit Go.Maps
attribute [-simp] Tryz.isAgg24 Tryz.typeInfo24

set_option maxHeartbeats 8000000 in
set_option maxRecDepth 100000 in
theorem rHeader_any (w : World) {S : Nat → Prop} {x : tHeader.El} {cs : List Value} (h : tHeader.rep w S x cs) (hl : (tHeader.enc x).length ≤ 1099511627776) :
    Calls Tryz.prog 55 #[.agg cs.toArray] w fun e w' => ∃ v', e = .returned v' ∧ Fresh w w' v' (tHeader.enc x) := by
  obtain ⟨x0, x1, x2, x3, x4, x5, x6, x7, _⟩ := x
  obtain ⟨c0, _, rfl, ⟨rfl, _⟩, c1, _, rfl, ⟨rfl, _⟩, c2, _, rfl, ⟨rfl, _⟩, c3, _, rfl, ⟨rfl, _⟩, c4, _, rfl, ⟨rfl, l4⟩, c5, _, rfl, ⟨rfl, l5⟩, c6, _, rfl, ⟨rfl, l6⟩, c7, _, rfl, ⟨rfl, _⟩, rfl⟩ := h
  simp only [nk_t]
  obtain ⟨C, hC⟩ : ∃ C, C = [Value.int .i64 x0] ++ ([Value.int .i64 x1] ++ ([Value.int .i64 x2] ++ ([Value.int .i64 x3] ++ (u8s x4 ++ (u8s x5 ++ (u8s x6 ++ ([Value.int .i64 x7] ++ ([])))))))) := ⟨_, rfl⟩
  rw [← hC]
  have hf : ∀ w', Blk w' w.heap.size 29 C.toArray → w'.cell? ⟨w.heap.size, 0, none⟩ = some (.int .i64 x0) ∧ w'.cell? ⟨w.heap.size, 1, none⟩ = some (.int .i64 x1) ∧ w'.cell? ⟨w.heap.size, 2, none⟩ = some (.int .i64 x2) ∧ w'.cell? ⟨w.heap.size, 3, none⟩ = some (.int .i64 x3) ∧ w'.rangeAt w.heap.size 4 (u8s x4) ∧ w'.rangeAt w.heap.size 36 (u8s x5) ∧ w'.rangeAt w.heap.size 68 (u8s x6) ∧ w'.cell? ⟨w.heap.size, 100, none⟩ = some (.int .i64 x7) := fun w' hb => by
    have := hb.lies [[Value.int .i64 x0], [Value.int .i64 x1], [Value.int .i64 x2], [Value.int .i64 x3], u8s x4, u8s x5, u8s x6, [Value.int .i64 x7]] [] (by rw [hC]; simp)
    simp only [Lies, u8s_length, l4, l5, l6, List.length_cons, List.length_nil] at this
    obtain ⟨s0, s1, s2, s3, s4, s5, s6, s7, _⟩ := this
    exact ⟨Lies.one s0, Lies.one s1, Lies.one s2, Lies.one s3, s4, s5, s6, Lies.one s7⟩
  have HF := Lib.hid hf
  clear hf hC
  have L4 := Lib.hid l4; clear l4
  have L5 := Lib.hid l5; clear l5
  have L6 := Lib.hid l6; clear l6
  have hl' : (joinB [numB x0, numB x1, numB x2, numB x3, x4, x5, x6, numB x7]).length ≤ 1099511627776 := hl
  have HLL := Lib.hid hl'
  clear hl hl'
  go_enter Tryz.func55, Tryz.ntmps55
  go_wp2_with fail
  have hsz := (Blk.new w 29 C.toArray).lt
  have hb0 : Blk (w.alloc (.cells C.toArray 29)).drew w.heap.size 29 C.toArray := (Blk.new w 29 C.toArray).drew
  have hbw : Below w.heap.size w (w.alloc (.cells C.toArray 29)).drew := ((Below.refl w.heap.size w).alloc (Nat.le_refl _) _).drew
  have D4 := Lib.hid (Bs.of_range32 (S := fun b => b = w.heap.size) rfl hb0.lt ((HF.out _ hb0).2.2.2.2.1) L4.out)
  have D5 := Lib.hid (Bs.of_range32 (S := fun b => b = w.heap.size) rfl hb0.lt ((HF.out _ hb0).2.2.2.2.2.1) L5.out)
  have D6 := Lib.hid (Bs.of_range32 (S := fun b => b = w.heap.size) rfl hb0.lt ((HF.out _ hb0).2.2.2.2.2.2.1) L6.out)
  refine wp_region_hoist [0, 1, 2, 4, 5, 6, 8, 9, 10, 12, 13, 14, 16, 17, 18, 19, 20, 21, 22, 23, 24] [3, 7, 11, 15, 25] [26, 27, 28] (fun w' => Blk w' w.heap.size 29 C.toArray)
    (by kernel_rfl) (by kernel_rfl) (by kernel_rfl) (by kernel_rfl) (by kernel_rfl) (by kernel_rfl) hb0 ?_
  (refine HoistK.yes (by rfl) (by kernel_rfl) ⟨?_, fun w' hSw => ?_, ?_⟩; rotate_left; (· go_simp; try with_reducible rfl); simp only [Act.put, List.setIfInBounds_toArray, List.getElem_toArray, List.getElem_cons_zero, List.set_cons_succ, List.set_cons_zero])
  (refine HoistK.yes (by rfl) (by kernel_rfl) ⟨?_, fun w' hSw => ?_, ?_⟩; rotate_left; (· obtain ⟨s0, s1, s2, s3, s4, s5, s6, s7⟩ := HF.out _ hSw; go_simp; try with_reducible rfl); simp only [Act.put, List.setIfInBounds_toArray, List.getElem_toArray, List.getElem_cons_succ, List.getElem_cons_zero, List.set_cons_succ, List.set_cons_zero])
  (refine HoistK.yes (by rfl) (by kernel_rfl) ⟨?_, fun w' hSw => ?_, ?_⟩; rotate_left; (· go_simp; try with_reducible rfl); simp only [Act.put, List.setIfInBounds_toArray, List.getElem_toArray, List.getElem_cons_succ, List.getElem_cons_zero, List.set_cons_succ, List.set_cons_zero])
  (refine HoistK.yes (by rfl) (by kernel_rfl) ⟨?_, fun w' hSw => ?_, ?_⟩; rotate_left; (· go_simp; try with_reducible rfl); simp only [Act.put, List.setIfInBounds_toArray, List.getElem_toArray, List.getElem_cons_succ, List.getElem_cons_zero, List.set_cons_succ, List.set_cons_zero])
  (refine HoistK.yes (by rfl) (by kernel_rfl) ⟨?_, fun w' hSw => ?_, ?_⟩; rotate_left; (· obtain ⟨s0, s1, s2, s3, s4, s5, s6, s7⟩ := HF.out _ hSw; go_simp; try with_reducible rfl); simp only [Act.put, List.setIfInBounds_toArray, List.getElem_toArray, List.getElem_cons_succ, List.getElem_cons_zero, List.set_cons_succ, List.set_cons_zero])
  (refine HoistK.yes (by rfl) (by kernel_rfl) ⟨?_, fun w' hSw => ?_, ?_⟩; rotate_left; (· go_simp; try with_reducible rfl); simp only [Act.put, List.setIfInBounds_toArray, List.getElem_toArray, List.getElem_cons_succ, List.getElem_cons_zero, List.set_cons_succ, List.set_cons_zero])
  (refine HoistK.yes (by rfl) (by kernel_rfl) ⟨?_, fun w' hSw => ?_, ?_⟩; rotate_left; (· go_simp; try with_reducible rfl); simp only [Act.put, List.setIfInBounds_toArray, List.getElem_toArray, List.getElem_cons_succ, List.getElem_cons_zero, List.set_cons_succ, List.set_cons_zero])
  (refine HoistK.yes (by rfl) (by kernel_rfl) ⟨?_, fun w' hSw => ?_, ?_⟩; rotate_left; (· obtain ⟨s0, s1, s2, s3, s4, s5, s6, s7⟩ := HF.out _ hSw; go_simp; try with_reducible rfl); simp only [Act.put, List.setIfInBounds_toArray, List.getElem_toArray, List.getElem_cons_succ, List.getElem_cons_zero, List.set_cons_succ, List.set_cons_zero])
  (refine HoistK.yes (by rfl) (by kernel_rfl) ⟨?_, fun w' hSw => ?_, ?_⟩; rotate_left; (· go_simp; try with_reducible rfl); simp only [Act.put, List.setIfInBounds_toArray, List.getElem_toArray, List.getElem_cons_succ, List.getElem_cons_zero, List.set_cons_succ, List.set_cons_zero])
  (refine HoistK.yes (by rfl) (by kernel_rfl) ⟨?_, fun w' hSw => ?_, ?_⟩; rotate_left; (· go_simp; try with_reducible rfl); simp only [Act.put, List.setIfInBounds_toArray, List.getElem_toArray, List.getElem_cons_succ, List.getElem_cons_zero, List.set_cons_succ, List.set_cons_zero])
  (refine HoistK.yes (by rfl) (by kernel_rfl) ⟨?_, fun w' hSw => ?_, ?_⟩; rotate_left; (· obtain ⟨s0, s1, s2, s3, s4, s5, s6, s7⟩ := HF.out _ hSw; go_simp; try with_reducible rfl); simp only [Act.put, List.setIfInBounds_toArray, List.getElem_toArray, List.getElem_cons_succ, List.getElem_cons_zero, List.set_cons_succ, List.set_cons_zero])
  (refine HoistK.yes (by rfl) (by kernel_rfl) ⟨?_, fun w' hSw => ?_, ?_⟩; rotate_left; (· go_simp; try with_reducible rfl); simp only [Act.put, List.setIfInBounds_toArray, List.getElem_toArray, List.getElem_cons_succ, List.getElem_cons_zero, List.set_cons_succ, List.set_cons_zero])
  (refine HoistK.yes (by rfl) (by kernel_rfl) ⟨?_, fun w' hSw => ?_, ?_⟩; rotate_left; (· go_simp; try with_reducible rfl); simp only [Act.put, List.setIfInBounds_toArray, List.getElem_toArray, List.getElem_cons_succ, List.getElem_cons_zero, List.set_cons_succ, List.set_cons_zero])
  (refine HoistK.yes (by rfl) (by kernel_rfl) ⟨?_, fun w' hSw => ?_, ?_⟩; rotate_left; (· go_simp; try with_reducible rfl); simp only [Act.put, List.setIfInBounds_toArray, List.getElem_toArray, List.getElem_cons_succ, List.getElem_cons_zero, List.set_cons_succ, List.set_cons_zero])
  (refine HoistK.yes (by rfl) (by kernel_rfl) ⟨?_, fun w' hSw => ?_, ?_⟩; rotate_left; (· go_simp; try with_reducible rfl); simp only [Act.put, List.setIfInBounds_toArray, List.getElem_toArray, List.getElem_cons_succ, List.getElem_cons_zero, List.set_cons_succ, List.set_cons_zero])
  (refine HoistK.yes (by rfl) (by kernel_rfl) ⟨?_, fun w' hSw => ?_, ?_⟩; rotate_left; (· go_simp; try with_reducible rfl); simp only [Act.put, List.setIfInBounds_toArray, List.getElem_toArray, List.getElem_cons_succ, List.getElem_cons_zero, List.set_cons_succ, List.set_cons_zero])
  (refine HoistK.yes (by rfl) (by kernel_rfl) ⟨?_, fun w' hSw => ?_, ?_⟩; rotate_left; (· go_simp; try with_reducible rfl); simp only [Act.put, List.setIfInBounds_toArray, List.getElem_toArray, List.getElem_cons_succ, List.getElem_cons_zero, List.set_cons_succ, List.set_cons_zero])
  (refine HoistK.yes (by rfl) (by kernel_rfl) ⟨?_, fun w' hSw => ?_, ?_⟩; rotate_left; (· go_simp; try with_reducible rfl); simp only [Act.put, List.setIfInBounds_toArray, List.getElem_toArray, List.getElem_cons_succ, List.getElem_cons_zero, List.set_cons_succ, List.set_cons_zero])
  (refine HoistK.yes (by rfl) (by kernel_rfl) ⟨?_, fun w' hSw => ?_, ?_⟩; rotate_left; (· go_simp; try with_reducible rfl); simp only [Act.put, List.setIfInBounds_toArray, List.getElem_toArray, List.getElem_cons_succ, List.getElem_cons_zero, List.set_cons_succ, List.set_cons_zero])
  (refine HoistK.yes (by rfl) (by kernel_rfl) ⟨?_, fun w' hSw => ?_, ?_⟩; rotate_left; (· obtain ⟨s0, s1, s2, s3, s4, s5, s6, s7⟩ := HF.out _ hSw; go_simp; try with_reducible rfl); simp only [Act.put, List.setIfInBounds_toArray, List.getElem_toArray, List.getElem_cons_succ, List.getElem_cons_zero, List.set_cons_succ, List.set_cons_zero])
  (refine HoistK.yes (by rfl) (by kernel_rfl) ⟨?_, fun w' hSw => ?_, ?_⟩; rotate_left; (· go_simp; try with_reducible rfl); simp only [Act.put, List.setIfInBounds_toArray, List.getElem_toArray, List.getElem_cons_succ, List.getElem_cons_zero, List.set_cons_succ, List.set_cons_zero])
  refine HoistK.nil_ ?_
  simp only [opsAt, List.filterMap_cons, List.filterMap_nil, List.getElem?_toArray, List.getElem?_cons_succ, List.getElem?_cons_zero]
  have g0 : Got (w.alloc (.cells C.toArray 29)).drew (w.alloc (.cells C.toArray 29)).drew [] [] := Got.start (Below.refl _ _)
  refine Effects.cons_ fun _ hQ1 => ?_
  go_wp2_with fail
  refine (rNumI_any _ _).mono ?_
  rintro e u1 ⟨v1, rfl, f1⟩
  have g1 := g0.step f1
  have hb1 := hb0.below f1.2 hb0.lt
  clear f1
  go_wp2_with fail
  refine hQ1 _ _ hb1 (Effects.cons_ fun _ hQ2 => ?_)
  clear hQ1 hb0 g0
  go_wp2_with fail
  refine (rNumI_any _ _).mono ?_
  rintro e u2 ⟨v2, rfl, f2⟩
  have g2 := g1.step f2
  have hb2 := hb1.below f2.2 hb1.lt
  clear f2
  go_wp2_with fail
  refine hQ2 _ _ hb2 (Effects.cons_ fun _ hQ3 => ?_)
  clear hQ2 hb1 g1
  go_wp2_with fail
  refine (rNumI_any _ _).mono ?_
  rintro e u3 ⟨v3, rfl, f3⟩
  have g3 := g2.step f3
  have hb3 := hb2.below f3.2 hb2.lt
  clear f3
  go_wp2_with fail
  refine hQ3 _ _ hb3 (Effects.cons_ fun _ hQ4 => ?_)
  clear hQ3 hb2 g2
  go_wp2_with fail
  refine (rNumI_any _ _).mono ?_
  rintro e u4 ⟨v4, rfl, f4⟩
  have g4 := g3.step f4
  have hb4 := hb3.below f4.2 hb3.lt
  clear f4
  go_wp2_with fail
  refine hQ4 _ _ hb4 (Effects.cons_ fun _ hQ5 => ?_)
  clear hQ4 hb3 g3
  have g5 := g4.old D4.out
  clear g4
  have g6 := g5.old D5.out
  clear g5
  have g7 := g6.old D6.out
  clear g6
  go_wp2_with fail
  refine (rNumI_any _ _).mono ?_
  rintro e u5 ⟨v8, rfl, f5⟩
  have g8 := g7.step f5
  have hb5 := hb4.below f5.2 hb4.lt
  clear f5
  go_wp2_with fail
  refine hQ5 _ _ hb5 (Effects.nil_ fun _ hQ6 => ?_)
  clear hQ5 hb4 g7
  have hcs : ∀ v ∈ [v1, v2, v3, v4, (.slice (some ⟨w.heap.size, 4, none⟩) 32 32), (.slice (some ⟨w.heap.size, 36, none⟩) 32 32), (.slice (some ⟨w.heap.size, 68, none⟩) 32 32), v8], v.cells = #[v] := fun v hv => by
    obtain ⟨i, hi, rfl⟩ := List.getElem_of_mem hv
    obtain ⟨y, _, hr⟩ := g8.2.get i hi
    obtain ⟨A, c, e⟩ := hr.form
    have e' : [v1, v2, v3, v4, (.slice (some ⟨w.heap.size, 4, none⟩) 32 32), (.slice (some ⟨w.heap.size, 36, none⟩) 32 32), (.slice (some ⟨w.heap.size, 68, none⟩) 32 32), v8][i] = .slice A y.length c := e
    rw [e']; rfl
  refine wpList_rows rfl 8 _ rfl [v1, v2, v3, v4, (.slice (some ⟨w.heap.size, 4, none⟩) 32 32), (.slice (some ⟨w.heap.size, 36, none⟩) 32 32), (.slice (some ⟨w.heap.size, 68, none⟩) 32 32), v8] rfl (by decide) (by decide) hcs (by simp [Act.eval]) ?_
  have hr : Bsr (u5.alloc (.cells [v1, v2, v3, v4, (.slice (some ⟨w.heap.size, 4, none⟩) 32 32), (.slice (some ⟨w.heap.size, 36, none⟩) 32 32), (.slice (some ⟨w.heap.size, 68, none⟩) 32 32), v8].toArray 50)) (fun b => b < u5.heap.size + 1) (.slice (some ⟨u5.heap.size, 0, none⟩) 8 8) [numB x0, numB x1, numB x2, numB x3, x4, x5, x6, numB x7] := g8.row (by simp [maxLen]) 50
  have hj := rJoin_any _ hr (by have := HLL.out; omega) (fun b hb => by simpa using hb)
  have hbb : Below w.heap.size w (u5.alloc (.cells [v1, v2, v3, v4, (.slice (some ⟨w.heap.size, 4, none⟩) 32 32), (.slice (some ⟨w.heap.size, 36, none⟩) 32 32), (.slice (some ⟨w.heap.size, 68, none⟩) 32 32), v8].toArray 50)) := (hbw.trans (g8.1.mono hbw.size)).alloc (hbw.trans (g8.1.mono hbw.size)).size _
  have HJ := Lib.hid hj
  have HBB := Lib.hid hbb
  clear hj hbb hr g8 hcs
  go_wp2_with fail
  refine HJ.out.mono ?_
  rintro e uz ⟨vz, rfl, fz⟩
  go_wp2_with fail
  go_ret
  exact ⟨vz, rfl, fz.1.sub fun b hb _ => ⟨Nat.le_trans HBB.out.size hb.1, hb.2⟩, HBB.out.trans (fz.2.mono HBB.out.size)⟩

end Go.Proofs.YtjjgmkfkmckkoabGreatDoor

/- Codec: reference: a signature. -/
namespace Go.Proofs.YtjjgmkfkmckkoabGreatDoor
open Go.RowKit Go.Maps
attribute [-simp] Tryz.isAgg24 Tryz.typeInfo24

set_option maxHeartbeats 8000000 in
set_option maxRecDepth 100000 in
theorem rSig_any (w : World) {S : Nat → Prop} {x : tSig.El} {cs : List Value} (h : tSig.rep w S x cs) (hl : (tSig.enc x).length ≤ 1099511627776) :
    Calls Tryz.prog 57 #[.agg cs.toArray] w fun e w' => ∃ v', e = .returned v' ∧ Fresh w w' v' (tSig.enc x) := by
  obtain ⟨x0, x1, _⟩ := x
  obtain ⟨c0, _, rfl, ⟨rfl, _⟩, c1, _, rfl, ⟨rfl, l1⟩, rfl⟩ := h
  simp only [nk_t]
  obtain ⟨C, hC⟩ : ∃ C, C = [Value.int .i64 x0] ++ (u8s x1 ++ ([])) := ⟨_, rfl⟩
  rw [← hC]
  have hf : ∀ w', Blk w' w.heap.size 37 C.toArray → w'.cell? ⟨w.heap.size, 0, none⟩ = some (.int .i64 x0) ∧ w'.rangeAt w.heap.size 1 (u8s x1) := fun w' hb => by
    have := hb.lies [[Value.int .i64 x0], u8s x1] [] (by rw [hC]; simp)
    simp only [Lies, List.length_cons, List.length_nil] at this
    obtain ⟨s0, s1, _⟩ := this
    exact ⟨Lies.one s0, s1⟩
  have HF := Lib.hid hf
  clear hf hC
  have L1 := Lib.hid l1; clear l1
  have hl' : (joinB [numB x0, x1]).length ≤ 1099511627776 := hl
  have HLL := Lib.hid hl'
  clear hl hl'
  go_enter Tryz.func57, Tryz.ntmps57
  go_wp2_with fail
  have hsz := (Blk.new w 37 C.toArray).lt
  have hb0 : Blk (w.alloc (.cells C.toArray 37)).drew w.heap.size 37 C.toArray := (Blk.new w 37 C.toArray).drew
  have hbw : Below w.heap.size w (w.alloc (.cells C.toArray 37)).drew := ((Below.refl w.heap.size w).alloc (Nat.le_refl _) _).drew
  have D1 := Lib.hid (Bs.of_range32 (S := fun b => b = w.heap.size) rfl hb0.lt ((HF.out _ hb0).2) L1.out)
  refine wp_region_hoist [0, 1, 2, 4, 5] [3] [6, 7, 8] (fun w' => Blk w' w.heap.size 37 C.toArray)
    (by kernel_rfl) (by kernel_rfl) (by kernel_rfl) (by kernel_rfl) (by kernel_rfl) (by kernel_rfl) hb0 ?_
  (refine HoistK.yes (by rfl) (by kernel_rfl) ⟨?_, fun w' hSw => ?_, ?_⟩; rotate_left; (· go_simp; try with_reducible rfl); simp only [Act.put, List.setIfInBounds_toArray, List.getElem_toArray, List.getElem_cons_zero, List.set_cons_succ, List.set_cons_zero])
  (refine HoistK.yes (by rfl) (by kernel_rfl) ⟨?_, fun w' hSw => ?_, ?_⟩; rotate_left; (· obtain ⟨s0, s1⟩ := HF.out _ hSw; go_simp; try with_reducible rfl); simp only [Act.put, List.setIfInBounds_toArray, List.getElem_toArray, List.getElem_cons_succ, List.getElem_cons_zero, List.set_cons_succ, List.set_cons_zero])
  (refine HoistK.yes (by rfl) (by kernel_rfl) ⟨?_, fun w' hSw => ?_, ?_⟩; rotate_left; (· go_simp; try with_reducible rfl); simp only [Act.put, List.setIfInBounds_toArray, List.getElem_toArray, List.getElem_cons_succ, List.getElem_cons_zero, List.set_cons_succ, List.set_cons_zero])
  (refine HoistK.yes (by rfl) (by kernel_rfl) ⟨?_, fun w' hSw => ?_, ?_⟩; rotate_left; (· go_simp; try with_reducible rfl); simp only [Act.put, List.setIfInBounds_toArray, List.getElem_toArray, List.getElem_cons_succ, List.getElem_cons_zero, List.set_cons_succ, List.set_cons_zero])
  (refine HoistK.yes (by rfl) (by kernel_rfl) ⟨?_, fun w' hSw => ?_, ?_⟩; rotate_left; (· go_simp; try with_reducible rfl); simp only [Act.put, List.setIfInBounds_toArray, List.getElem_toArray, List.getElem_cons_succ, List.getElem_cons_zero, List.set_cons_succ, List.set_cons_zero])
  refine HoistK.nil_ ?_
  simp only [opsAt, List.filterMap_cons, List.filterMap_nil, List.getElem?_toArray, List.getElem?_cons_succ, List.getElem?_cons_zero]
  have g0 : Got (w.alloc (.cells C.toArray 37)).drew (w.alloc (.cells C.toArray 37)).drew [] [] := Got.start (Below.refl _ _)
  refine Effects.cons_ fun _ hQ1 => ?_
  go_wp2_with fail
  refine (rNumI_any _ _).mono ?_
  rintro e u1 ⟨v1, rfl, f1⟩
  have g1 := g0.step f1
  have hb1 := hb0.below f1.2 hb0.lt
  clear f1
  go_wp2_with fail
  refine hQ1 _ _ hb1 (Effects.nil_ fun _ hQ2 => ?_)
  clear hQ1 hb0 g0
  have g2 := g1.old D1.out
  clear g1
  have hcs : ∀ v ∈ [v1, (.slice (some ⟨w.heap.size, 1, none⟩) 32 32)], v.cells = #[v] := fun v hv => by
    obtain ⟨i, hi, rfl⟩ := List.getElem_of_mem hv
    obtain ⟨y, _, hr⟩ := g2.2.get i hi
    obtain ⟨A, c, e⟩ := hr.form
    have e' : [v1, (.slice (some ⟨w.heap.size, 1, none⟩) 32 32)][i] = .slice A y.length c := e
    rw [e']; rfl
  refine wpList_rows rfl 2 _ rfl [v1, (.slice (some ⟨w.heap.size, 1, none⟩) 32 32)] rfl (by decide) (by decide) hcs (by simp [Act.eval]) ?_
  have hr : Bsr (u1.alloc (.cells [v1, (.slice (some ⟨w.heap.size, 1, none⟩) 32 32)].toArray 50)) (fun b => b < u1.heap.size + 1) (.slice (some ⟨u1.heap.size, 0, none⟩) 2 2) [numB x0, x1] := g2.row (by simp [maxLen]) 50
  have hj := rJoin_any _ hr (by have := HLL.out; omega) (fun b hb => by simpa using hb)
  have hbb : Below w.heap.size w (u1.alloc (.cells [v1, (.slice (some ⟨w.heap.size, 1, none⟩) 32 32)].toArray 50)) := (hbw.trans (g2.1.mono hbw.size)).alloc (hbw.trans (g2.1.mono hbw.size)).size _
  have HJ := Lib.hid hj
  have HBB := Lib.hid hbb
  clear hj hbb hr g2 hcs
  go_wp2_with fail
  refine HJ.out.mono ?_
  rintro e uz ⟨vz, rfl, fz⟩
  go_wp2_with fail
  go_ret
  exact ⟨vz, rfl, fz.1.sub fun b hb _ => ⟨Nat.le_trans HBB.out.size hb.1, hb.2⟩, HBB.out.trans (fz.2.mono HBB.out.size)⟩

end Go.Proofs.YtjjgmkfkmckkoabGreatDoor

/- Codec's reference: numbers. -/
namespace Go.Proofs.YtjjgmkfkmckkoabGreatDoor
open Go.RowKit Go.Maps

set_option maxHeartbeats 2000000 in
set_option maxRecDepth 100000 in
theorem rNums_any (w : World) {S : Nat → Prop} {v : Value} {l : List (i64).El} (h : (Sh.list i64).rep w S l [v]) (hl : ((Sh.list i64).enc l).length ≤ 1099511627776) :
    Calls Tryz.prog 89 #[v] w fun e w' => ∃ v', e = .returned v' ∧ Fresh w w' v' ((Sh.list i64).enc l) := by
  obtain ⟨A, cap, rfl, hlen, hat⟩ := list_at h
  have H := Lib.hid h; clear h
  have hl' : (joinB (l.map (i64).enc)).length ≤ 1099511627776 := hl
  have hcnt := joinP_count (l.map (i64).enc)
  rw [joinB_length] at hl'
  rw [List.length_map] at hcnt
  have HLL := Lib.hid hl
  clear hl hat
  go_enter Tryz.func89, Tryz.ntmps89
  go_wp2_with fail
  go_loopw [3, 4] (fun a i wr => ∃ k : Nat, k ≤ l.length ∧ i = .int .i64 k ∧ Bss wr (fun b => w.heap.size ≤ b) (fun b => w.heap.size ≤ b) a ((l.take k).map (i64).enc) ∧ Below w.heap.size w wr) (fun _ i _ => l.length - (intOf i).toNat)
  case atStart => exact ⟨0, Nat.zero_le _, rfl, Bss.empty w _ _ (Nat.le_refl _), (Below.refl w.heap.size w).alloc (Nat.le_refl _) _⟩
  case round =>
    obtain ⟨k, hk, rfl, hB, hbl⟩ := hrel
    by_cases hlt : k < l.length
    · obtain ⟨R, hR⟩ : ∃ R, R = (l.take k).map (i64).enc := ⟨_, rfl⟩
      rw [← hR] at hB
      have hRl : R.length = k := by rw [hR, List.length_map, List.length_take]; omega
      have hnext : (l.take (k + 1)).map (i64).enc = R ++ [(i64).enc l[k]] := by rw [List.take_succ_eq_append_getElem hlt, List.map_append, ← hR]; rfl
      obtain ⟨Aa, ca, rfl⟩ := hB.form
      obtain ⟨_, _, e, _, hat⟩ := list_at (Sh.rep_below H.out hbl)
      injection e with e1 e2 e3
      subst e1 e3
      obtain ⟨b, off, c, rfl, hca, hr, hcl, _, _⟩ := hat k hlt
      obtain ⟨x, hx⟩ : ∃ x, x = l[k] := ⟨_, rfl⟩
      rw [← hx] at hr hnext
      obtain ⟨rfl, _⟩ := hr
      have hcell := Lies.one hca
      have hcell : wr.cell? ⟨b, off + k, none⟩ = some (.int .i64 x) := by simpa [Sh.cells, nk] using hcell
      have hown : ∀ k, (Value.slice Aa R.length ca).ownBlock = some k → k < wr.heap.size := fun k hk => by obtain ⟨vs, ho, _⟩ := hB; exact own_lt ho hk
      have HB := Lib.hid hB
      have HN := Lib.hid hnext
      have HRL := Lib.hid hRl
      have HOWN := Lib.hid hown
      clear hB hca hcl hat hx hR hnext hRl hown
      go_wp2_with fail
      refine (rNumI_any _ _).mono ?_
      rintro e w1 ⟨v1, rfl, f1⟩
      have hb1 := hbl.trans (f1.2.mono hbl.size)
      obtain ⟨y, hy⟩ : ∃ y, y = (i64).enc x := ⟨_, rfl⟩
      have f1 : Fresh wr w1 v1 y := hy ▸ f1
      rw [← hy] at HN
      obtain ⟨A1, c1, rfl⟩ := f1.1.form
      obtain ⟨vs, ho, hS, hr⟩ := HB.out.below f1.2
      have hsz1 := f1.2.size
      have hal : Below w1.heap.size w1 (w1.alloc (.cells #[.slice A1 y.length c1] 50)) := (Below.refl _ w1).alloc (Nat.le_refl _) _
      have HAL := Lib.hid hal
      have HO := Lib.hid (show Own (w1.alloc (.cells #[.slice A1 y.length c1] 50)) _ _ _ _ _ from own_keep ho fun k hk => hal.block k (own_lt ho hk))
      have HS := Lib.hid hS
      have HR := Lib.hid (fun i x u h1 h2 => (hr i x u h1 h2).below hal)
      have HU := Lib.hid ((f1.1.1.below hal).sub (T := fun b => w.heap.size ≤ b ∧ (Value.slice Aa R.length ca).ownBlock ≠ some b) fun b hb _ => ⟨Nat.le_trans hbl.size hb.1, fun e => by have := HOWN.out b e; omega⟩)
      have HS2 := Lib.hid (Cs.of_new w1 50 (size := 1) 1 (cs := [.slice A1 y.length c1]) rfl (by simp only [maxLen]; decide))
      have H63 := Lib.hid (show R.length + 1 ≤ maxLen ∧ (R.length + 1) * 24 ≤ 140737488355328 from by have := HRL.out; refine ⟨by simp only [maxLen]; omega, by omega⟩)
      clear ho hS hr hal f1 hy
      go_wp2_with (at_builtin; refine wpList_app _ rfl _ _ _ rfl Tryz.underlying103 info_row rfl (by decide) HO.out rfl HS2.out rfl (by simp [Value.oneCell']) H63.out.1 H63.out.2 ?_; intro v3 w3 ho3 hg3 hnil3 hat3; clear hnil3; have HO3 := Lib.hid ho3; clear ho3; have HG3 := Lib.hid hg3; clear hg3; have HAT3 := Lib.hid hat3; clear hat3)
      have hpush := Bss.push HO.out HS.out HR.out HU.out HO3.out HG3.out HAT3.out (by have := hb1.size; have := HAL.out.size; omega)
      rw [← HN.out] at hpush
      refine ⟨⟨k + 1, by omega, by push_cast; rfl, hpush, (hb1.trans (HAL.out.mono hb1.size)).trans (HG3.out.below (Nat.le_trans hb1.size HAL.out.size) fun b h => HS.out b h)⟩, ?_⟩
      simp only [intOf]
      omega
    · have hk' : k = l.length := by omega
      rw [hk', List.take_length] at hB
      have hsm : ∀ x ∈ l.map (i64).enc, x.length ≤ 140737488355328 := fun x hx => by have := joinP_mem hx; omega
      have hj := rJoin_any _ ((hB.read hsm).lt_ (T := fun b => w.heap.size ≤ b) fun b h => h.elim id id) (by rw [joinB_length]; omega) fun b h => h.2
      have HJ := Lib.hid hj
      obtain ⟨R, hR⟩ : ∃ R, R = l.map (i64).enc := ⟨_, rfl⟩
      have HR := Lib.hid hR
      rw [← hR] at hB HJ
      obtain ⟨Aa, ca, rfl⟩ := hB.form
      clear hj hB hR hsm
      go_wp2_with fail
      refine HJ.out.mono ?_
      rintro e w1 ⟨v1, rfl, f1⟩
      go_wp2_with fail
      go_ret
      refine ⟨v1, rfl, ?_, hbl.trans (f1.2.mono hbl.size)⟩
      have := f1.1.sub (T := fun b => w.heap.size ≤ b ∧ Th w1 b) fun b hb _ => ⟨Nat.le_trans hbl.size hb.1, hb.2⟩
      rw [HR.out] at this
      exact this

end Go.Proofs.YtjjgmkfkmckkoabGreatDoor

/- Codec: reference: a certificate. -/
namespace Go.Proofs.YtjjgmkfkmckkoabGreatDoor
open Go.RowKit Go.Maps
attribute [-simp] Tryz.isAgg24 Tryz.typeInfo24 Tryz.isAgg37 Tryz.typeInfo37

set_option maxHeartbeats 8000000 in
set_option maxRecDepth 100000 in
theorem rQC_any (w : World) {S : Nat → Prop} {x : tQC.El} {cs : List Value} (h : tQC.rep w S x cs) (hl : (tQC.enc x).length ≤ 1099511627776) :
    Calls Tryz.prog 56 #[.agg cs.toArray] w fun e w' => ∃ v', e = .returned v' ∧ Fresh w w' v' (tQC.enc x) := by
  obtain ⟨x0, x1, x2, x3, x4, x5, _⟩ := x
  obtain ⟨c0, _, rfl, ⟨rfl, _⟩, c1, _, rfl, ⟨rfl, _⟩, c2, _, rfl, ⟨rfl, _⟩, c3, _, rfl, ⟨rfl, l3⟩, c4, _, rfl, r4, c5, _, rfl, r5, rfl⟩ := h
  obtain ⟨y4, rfl⟩ : ∃ y, c4 = [y] := by obtain ⟨v, _, e, _⟩ := r4; exact ⟨v, e⟩
  obtain ⟨y5, rfl⟩ : ∃ y, c5 = [y] := by obtain ⟨v, _, e, _⟩ := r5; exact ⟨v, e⟩
  obtain ⟨A5, cap5, rfl, hlen5, _⟩ := list_at r5
  have R4 := Lib.hid r4; clear r4
  have R5 := Lib.hid r5; clear r5
  simp only [nk_t]
  obtain ⟨C, hC⟩ : ∃ C, C = [Value.int .i64 x0] ++ ([Value.int .i64 x1] ++ ([Value.int .i64 x2] ++ (u8s x3 ++ ([y4] ++ ([Value.slice A5 (List.length (α := (tSig).El) x5) cap5] ++ ([])))))) := ⟨_, rfl⟩
  rw [← hC]
  have hf : ∀ w', Blk w' w.heap.size 33 C.toArray → w'.cell? ⟨w.heap.size, 0, none⟩ = some (.int .i64 x0) ∧ w'.cell? ⟨w.heap.size, 1, none⟩ = some (.int .i64 x1) ∧ w'.cell? ⟨w.heap.size, 2, none⟩ = some (.int .i64 x2) ∧ w'.rangeAt w.heap.size 3 (u8s x3) ∧ w'.cell? ⟨w.heap.size, 35, none⟩ = some y4 ∧ w'.cell? ⟨w.heap.size, 36, none⟩ = some (.slice A5 (List.length (α := (tSig).El) x5) cap5) := fun w' hb => by
    have := hb.lies [[Value.int .i64 x0], [Value.int .i64 x1], [Value.int .i64 x2], u8s x3, [y4], [Value.slice A5 (List.length (α := (tSig).El) x5) cap5]] [] (by rw [hC]; simp)
    simp only [Lies, u8s_length, l3, List.length_cons, List.length_nil] at this
    obtain ⟨s0, s1, s2, s3, s4, s5, _⟩ := this
    exact ⟨Lies.one s0, Lies.one s1, Lies.one s2, s3, Lies.one s4, Lies.one s5⟩
  have HF := Lib.hid hf
  clear hf hC
  have L3 := Lib.hid l3; clear l3
  have hl' : (joinB [numB x0, numB x1, numB x2, x3, (Sh.list i64).enc x4, (Sh.list tSig).enc x5]).length ≤ 1099511627776 := hl
  have HLL := Lib.hid hl'
  clear hl hl'
  have HE5 := Lib.hid (show ((Sh.list tSig).enc x5).length ≤ 1099511627776 from (by have h1 := HLL.out; rw [joinB_length] at h1; have h2 := joinP_mem (l := [numB x0, numB x1, numB x2, x3, (Sh.list i64).enc x4, (Sh.list tSig).enc x5]) (x := (Sh.list tSig).enc x5) (by simp); omega))
  have hcn5 : (List.length (α := (tSig).El) x5) ≤ 137438953472 := by
    have h1 := HE5.out
    have h2 := joinP_count (List.map (tSig).enc x5)
    have h3 : ((Sh.list tSig).enc x5).length = 8 + (joinP (List.map (tSig).enc x5)).length := joinB_length _
    rw [List.length_map] at h2
    omega
  have HEJ5 := Lib.hid (show (joinB (List.map (tSig).enc x5)).length ≤ 140737488355328 from by
    have h1 := HE5.out
    have h3 : ((Sh.list tSig).enc x5).length = 8 + (joinP (List.map (tSig).enc x5)).length := joinB_length _
    rw [joinB_length]
    omega)
  go_enter Tryz.func56, Tryz.ntmps56
  go_wp2_with fail
  have hbe := (Below.refl w.heap.size w).alloc (Nat.le_refl _) (.cells C.toArray 33)
  have hal0 : Below (w.heap.size + 1) (w.alloc (.cells C.toArray 33)) ((w.alloc (.cells C.toArray 33)).alloc (.cells #[] 50)) := (Below.refl _ _).alloc (by simp) _
  have hMb : w.heap.size < w.heap.size + 1 := by omega
  go_loopw [3, 4] (fun o i wr => ∃ k : Nat, k ≤ (List.length (α := (tSig).El) x5) ∧ i = .int .i64 k ∧ Bss wr (fun b => (w.heap.size + 1) ≤ b) (fun b => (w.heap.size + 1) ≤ b) o ((List.take k x5).map (tSig).enc) ∧ Below w.heap.size w wr ∧ (w.heap.size + 1) ≤ wr.heap.size ∧ Blk wr w.heap.size 33 C.toArray) (fun _ i _ => (List.length (α := (tSig).El) x5) - (intOf i).toNat)
  case atStart => exact ⟨0, Nat.zero_le _, rfl, Bss.empty1 w _, hbe.alloc (by simp) _, by simp, ((Blk.new w _ _).alloc _)⟩
  case round =>
    obtain ⟨k, hk, rfl, hB, hbl, hMz, hbox⟩ := hrel
    by_cases hlt : k < (List.length (α := (tSig).El) x5)
    · obtain ⟨R, hR⟩ : ∃ R, R = (List.take k x5).map (tSig).enc := ⟨_, rfl⟩
      rw [← hR] at hB
      have hRl : R.length = k := by rw [hR, List.length_map, List.length_take]; omega
      have hnext : (List.take (k + 1) x5).map (tSig).enc = R ++ [(tSig).enc (x5[k]'hlt)] := by rw [List.take_succ_eq_append_getElem hlt, List.map_append, ← hR]; rfl
      obtain ⟨Aa, ca, rfl⟩ := hB.form
      obtain ⟨_, _, e, _, hat⟩ := list_at (Sh.rep_below R5.out hbl)
      injection e with e1 e2 e3
      subst e1 e3
      obtain ⟨b, off, c, rfl, hca, hr, hcl, hblt, _⟩ := hat k hlt
      obtain ⟨x, hx⟩ : ∃ x, x = x5[k]'hlt := ⟨_, rfl⟩
      rw [← hx] at hr hnext
      have hsm2 : ((tSig).enc x).length ≤ 1099511627776 := by
        have h1 := joinP_mem (List.mem_map.2 ⟨x5[k]'hlt, List.getElem_mem hlt, rfl⟩ : (tSig).enc (x5[k]'hlt) ∈ List.map (tSig).enc x5)
        have h2 := HE5.out
        have h3 : ((Sh.list tSig).enc x5).length = 8 + (joinP (List.map (tSig).enc x5)).length := joinB_length _
        rw [hx]; omega
      have hinfo : (Tryz.prog.info? 37).map (·.size) = some c.length := by rw [hcl]; kernel_rfl
      have HCA := Lib.hid (show wr.rangeAt b (off + k * 33) c from hca)
      have HI := Lib.hid hinfo
      clear hinfo
      have HREP := Lib.hid hr
      have HSM := Lib.hid hsm2
      clear hr hsm2
      have hown : ∀ k, (Value.slice Aa R.length ca).ownBlock = some k → k < wr.heap.size := fun k hk => by obtain ⟨vs, ho, _⟩ := hB; exact own_lt ho hk
      have hbc := (HF.out wr hbox).2.2.2.2.2
      have HB := Lib.hid hB
      have HN := Lib.hid hnext
      have HRL := Lib.hid hRl
      have HOWN := Lib.hid hown
      have HBOX := Lib.hid hbox
      clear hB hca hcl hat hx hR hnext hRl hown hbox
      go_wp2_with (refine wpList_load_mid rfl 37 _ rfl b (off + k * 33) rfl c _ HCA.out Tryz.underlying37 rfl HI.out ?_)
      refine (rSig_any _ HREP.out HSM.out).mono ?_
      rintro e w1 ⟨v1, rfl, f1⟩
      have hb1 := hbl.trans (f1.2.mono hbl.size)
      obtain ⟨y, hy⟩ : ∃ y, y = (tSig).enc x := ⟨_, rfl⟩
      have f1 : Fresh wr w1 v1 y := hy ▸ f1
      rw [← hy] at HN
      obtain ⟨A1, c1, rfl⟩ := f1.1.form
      obtain ⟨vs, ho, hS, hr⟩ := HB.out.below f1.2
      have hsz1 := f1.2.size
      have hal : Below w1.heap.size w1 (w1.alloc (.cells #[.slice A1 y.length c1] 50)) := (Below.refl _ w1).alloc (Nat.le_refl _) _
      have HAL := Lib.hid hal
      have HO := Lib.hid (show Own (w1.alloc (.cells #[.slice A1 y.length c1] 50)) _ _ _ _ _ from own_keep ho fun k hk => hal.block k (own_lt ho hk))
      have HS := Lib.hid hS
      have HR := Lib.hid (fun i x u h1 h2 => (hr i x u h1 h2).below hal)
      have HU := Lib.hid ((f1.1.1.below hal).sub (T := fun b => (w.heap.size + 1) ≤ b ∧ (Value.slice Aa R.length ca).ownBlock ≠ some b) fun b hb _ => ⟨Nat.le_trans hMz hb.1, fun e => by have := HOWN.out b e; omega⟩)
      have HS2 := Lib.hid (Cs.of_new w1 50 (size := 1) 1 (cs := [.slice A1 y.length c1]) rfl (by simp only [maxLen]; decide))
      have H63 := Lib.hid (show R.length + 1 ≤ maxLen ∧ (R.length + 1) * 24 ≤ 140737488355328 from by have := HRL.out; refine ⟨by simp only [maxLen]; omega, by omega⟩)
      have HF2 := Lib.hid f1.2
      clear ho hS hr hal f1 hy
      go_wp2_with (at_builtin; refine wpList_app _ rfl _ _ _ rfl Tryz.underlying103 info_row rfl (by decide) HO.out rfl HS2.out rfl (by simp [Value.oneCell']) H63.out.1 H63.out.2 ?_; intro v3 w3 ho3 hg3 hnil3 hat3; clear hnil3; have HO3 := Lib.hid ho3; clear ho3; have HG3 := Lib.hid hg3; clear hg3; have HAT3 := Lib.hid hat3; clear hat3)
      have hzz := HAL.out.size
      have hz3 := HG3.out.size
      have hpush := Bss.push HO.out HS.out HR.out HU.out HO3.out HG3.out HAT3.out (by have := hb1.size; omega)
      rw [← HN.out] at hpush
      have hbA : Below w.heap.size w (w1.alloc (.cells #[.slice A1 y.length c1] 50)) := hb1.trans (HAL.out.mono hb1.size)
      have hbw3 := HF2.out.trans (HAL.out.mono hsz1)
      refine ⟨⟨k + 1, by omega, by push_cast; rfl, hpush, hbA.trans (HG3.out.below hbA.size fun b h => by have h1 := HS.out b h; have h2 := HBOX.out.lt; omega), by omega, (HBOX.out.below hbw3 HBOX.out.lt).chg HG3.out fun h => by have h1 := HS.out _ h; have h2 := hMb; omega⟩, ?_⟩
      simp only [intOf]
      omega
    · have hk' : k = (List.length (α := (tSig).El) x5) := by omega
      rw [hk', List.take_length] at hB
      have hsm : ∀ x ∈ List.map (tSig).enc x5, x.length ≤ 140737488355328 := fun x hx => by
        have h1 := joinP_mem hx
        have h2 := HE5.out
        have h3 : ((Sh.list tSig).enc x5).length = 8 + (joinP (List.map (tSig).enc x5)).length := joinB_length _
        omega
      have hEJ5 := HEJ5.out
      obtain ⟨R5m, hR5m⟩ : ∃ R, R = List.map (tSig).enc x5 := ⟨_, rfl⟩
      rw [← hR5m] at hB hsm hEJ5
      have HRm5 := Lib.hid hR5m
      have HEK5 := Lib.hid hEJ5
      clear hR5m hEJ5
      have V5 := Lib.hid (((hB.read hsm).lt_ (T := fun _ => True) fun _ _ => trivial).subs (T := fun b => b < wr.heap.size) fun b hb _ => hb.2)
      obtain ⟨Ao5, co5, rfl⟩ := hB.form
      have hbc5 := (HF.out wr hbox).2.2.2.2.2
      clear hB hsm
      obtain ⟨w_5, hw_5⟩ : ∃ w', w' = wr := ⟨_, rfl⟩
      subst hw_5
      have HBX5 := Lib.hid hbox; have hmb5 := hbox.lt; clear hbox
      go_wp2_with fail
      clear hlt hk hk'
      have hsz := HBX5.out.lt
      have hb0 : Blk w_5.drew w.heap.size 33 C.toArray := HBX5.out.drew
      have hbw : Below w.heap.size w w_5.drew := (hbl).drew
      have D3 := Lib.hid (Bs.of_range32 (S := fun b => b = w.heap.size) rfl hb0.lt ((HF.out _ hb0).2.2.2.1) L3.out)
      refine wp_region_hoist [0, 1, 2, 4, 5, 6, 8, 9, 10, 12, 13, 14, 15, 17] [3, 7, 11, 16, 18] [19, 20, 21] (fun w' => Blk w' w.heap.size 33 C.toArray)
        (by kernel_rfl) (by kernel_rfl) (by kernel_rfl) (by kernel_rfl) (by kernel_rfl) (by kernel_rfl) hb0 ?_
      (refine HoistK.yes (by rfl) (by kernel_rfl) ⟨?_, fun w' hSw => ?_, ?_⟩; rotate_left; (· go_simp; try with_reducible rfl); simp only [Act.put, List.setIfInBounds_toArray, List.getElem_toArray, List.getElem_cons_zero, List.set_cons_succ, List.set_cons_zero])
      (refine HoistK.yes (by rfl) (by kernel_rfl) ⟨?_, fun w' hSw => ?_, ?_⟩; rotate_left; (· obtain ⟨s0, s1, s2, s3, s4, s5⟩ := HF.out _ hSw; go_simp; try with_reducible rfl); simp only [Act.put, List.setIfInBounds_toArray, List.getElem_toArray, List.getElem_cons_succ, List.getElem_cons_zero, List.set_cons_succ, List.set_cons_zero])
      (refine HoistK.yes (by rfl) (by kernel_rfl) ⟨?_, fun w' hSw => ?_, ?_⟩; rotate_left; (· go_simp; try with_reducible rfl); simp only [Act.put, List.setIfInBounds_toArray, List.getElem_toArray, List.getElem_cons_succ, List.getElem_cons_zero, List.set_cons_succ, List.set_cons_zero])
      (refine HoistK.yes (by rfl) (by kernel_rfl) ⟨?_, fun w' hSw => ?_, ?_⟩; rotate_left; (· go_simp; try with_reducible rfl); simp only [Act.put, List.setIfInBounds_toArray, List.getElem_toArray, List.getElem_cons_succ, List.getElem_cons_zero, List.set_cons_succ, List.set_cons_zero])
      (refine HoistK.yes (by rfl) (by kernel_rfl) ⟨?_, fun w' hSw => ?_, ?_⟩; rotate_left; (· obtain ⟨s0, s1, s2, s3, s4, s5⟩ := HF.out _ hSw; go_simp; try with_reducible rfl); simp only [Act.put, List.setIfInBounds_toArray, List.getElem_toArray, List.getElem_cons_succ, List.getElem_cons_zero, List.set_cons_succ, List.set_cons_zero])
      (refine HoistK.yes (by rfl) (by kernel_rfl) ⟨?_, fun w' hSw => ?_, ?_⟩; rotate_left; (· go_simp; try with_reducible rfl); simp only [Act.put, List.setIfInBounds_toArray, List.getElem_toArray, List.getElem_cons_succ, List.getElem_cons_zero, List.set_cons_succ, List.set_cons_zero])
      (refine HoistK.yes (by rfl) (by kernel_rfl) ⟨?_, fun w' hSw => ?_, ?_⟩; rotate_left; (· go_simp; try with_reducible rfl); simp only [Act.put, List.setIfInBounds_toArray, List.getElem_toArray, List.getElem_cons_succ, List.getElem_cons_zero, List.set_cons_succ, List.set_cons_zero])
      (refine HoistK.yes (by rfl) (by kernel_rfl) ⟨?_, fun w' hSw => ?_, ?_⟩; rotate_left; (· obtain ⟨s0, s1, s2, s3, s4, s5⟩ := HF.out _ hSw; go_simp; try with_reducible rfl); simp only [Act.put, List.setIfInBounds_toArray, List.getElem_toArray, List.getElem_cons_succ, List.getElem_cons_zero, List.set_cons_succ, List.set_cons_zero])
      (refine HoistK.yes (by rfl) (by kernel_rfl) ⟨?_, fun w' hSw => ?_, ?_⟩; rotate_left; (· go_simp; try with_reducible rfl); simp only [Act.put, List.setIfInBounds_toArray, List.getElem_toArray, List.getElem_cons_succ, List.getElem_cons_zero, List.set_cons_succ, List.set_cons_zero])
      (refine HoistK.yes (by rfl) (by kernel_rfl) ⟨?_, fun w' hSw => ?_, ?_⟩; rotate_left; (· go_simp; try with_reducible rfl); simp only [Act.put, List.setIfInBounds_toArray, List.getElem_toArray, List.getElem_cons_succ, List.getElem_cons_zero, List.set_cons_succ, List.set_cons_zero])
      (refine HoistK.yes (by rfl) (by kernel_rfl) ⟨?_, fun w' hSw => ?_, ?_⟩; rotate_left; (· go_simp; try with_reducible rfl); simp only [Act.put, List.setIfInBounds_toArray, List.getElem_toArray, List.getElem_cons_succ, List.getElem_cons_zero, List.set_cons_succ, List.set_cons_zero])
      (refine HoistK.yes (by rfl) (by kernel_rfl) ⟨?_, fun w' hSw => ?_, ?_⟩; rotate_left; (· go_simp; try with_reducible rfl); simp only [Act.put, List.setIfInBounds_toArray, List.getElem_toArray, List.getElem_cons_succ, List.getElem_cons_zero, List.set_cons_succ, List.set_cons_zero])
      (refine HoistK.yes (by rfl) (by kernel_rfl) ⟨?_, fun w' hSw => ?_, ?_⟩; rotate_left; (· obtain ⟨s0, s1, s2, s3, s4, s5⟩ := HF.out _ hSw; go_simp; try with_reducible rfl); simp only [Act.put, List.setIfInBounds_toArray, List.getElem_toArray, List.getElem_cons_succ, List.getElem_cons_zero, List.set_cons_succ, List.set_cons_zero])
      (refine HoistK.yes (by rfl) (by kernel_rfl) ⟨?_, fun w' hSw => ?_, ?_⟩; rotate_left; (· go_simp; try with_reducible rfl); simp only [Act.put, List.setIfInBounds_toArray, List.getElem_toArray, List.getElem_cons_succ, List.getElem_cons_zero, List.set_cons_succ, List.set_cons_zero])
      refine HoistK.nil_ ?_
      simp only [opsAt, List.filterMap_cons, List.filterMap_nil, List.getElem?_toArray, List.getElem?_cons_succ, List.getElem?_cons_zero]
      have g0 : Got w_5.drew w_5.drew [] [] := Got.start (Below.refl _ _)
      refine Effects.cons_ fun _ hQ1 => ?_
      go_wp2_with fail
      refine (rNumI_any _ _).mono ?_
      rintro e u1 ⟨v1, rfl, f1⟩
      have g1 := g0.step f1
      have hb1 := hb0.below f1.2 hb0.lt
      clear f1
      go_wp2_with fail
      refine hQ1 _ _ hb1 (Effects.cons_ fun _ hQ2 => ?_)
      clear hQ1 hb0 g0
      go_wp2_with fail
      refine (rNumI_any _ _).mono ?_
      rintro e u2 ⟨v2, rfl, f2⟩
      have g2 := g1.step f2
      have hb2 := hb1.below f2.2 hb1.lt
      clear f2
      go_wp2_with fail
      refine hQ2 _ _ hb2 (Effects.cons_ fun _ hQ3 => ?_)
      clear hQ2 hb1 g1
      go_wp2_with fail
      refine (rNumI_any _ _).mono ?_
      rintro e u3 ⟨v3, rfl, f3⟩
      have g3 := g2.step f3
      have hb3 := hb2.below f3.2 hb2.lt
      clear f3
      go_wp2_with fail
      refine hQ3 _ _ hb3 (Effects.cons_ fun _ hQ4 => ?_)
      clear hQ3 hb2 g2
      have g4 := g3.old D3.out
      clear g3
      go_wp2_with fail
      refine (rNums_any _ (Sh.rep_below R4.out (hbw.trans (g4.1.mono hbw.size))) (by have h1 := HLL.out; rw [joinB_length] at h1; have h2 := joinP_mem (l := [numB x0, numB x1, numB x2, x3, (Sh.list i64).enc x4, (Sh.list tSig).enc x5]) (x := (Sh.list i64).enc x4) (by simp); omega)).mono ?_
      rintro e u4 ⟨v5, rfl, f4⟩
      have g5 := g4.step f4
      have hb4 := hb3.below f4.2 hb3.lt
      clear f4
      go_wp2_with fail
      refine hQ4 _ _ hb4 (Effects.cons_ fun _ hQ5 => ?_)
      clear hQ4 hb3 g4
      go_wp2_with fail
      refine (rJoin_any _ (V5.out.drew_.below g5.1) HEK5.out (fun b hb => Nat.lt_of_lt_of_le hb g5.1.size)).mono ?_
      rintro e u5 ⟨v6, rfl, f5⟩
      rw [HRm5.out] at f5
      have f5 : Fresh _ _ _ ((Sh.list tSig).enc x5) := f5
      have g6 := g5.step f5
      have hb5 := hb4.below f5.2 hb4.lt
      clear f5
      go_wp2_with fail
      refine hQ5 _ _ hb5 (Effects.nil_ fun _ hQ6 => ?_)
      clear hQ5 hb4 g5
      have hcs : ∀ v ∈ [v1, v2, v3, (.slice (some ⟨w.heap.size, 3, none⟩) 32 32), v5, v6], v.cells = #[v] := fun v hv => by
        obtain ⟨i, hi, rfl⟩ := List.getElem_of_mem hv
        obtain ⟨y, _, hr⟩ := g6.2.get i hi
        obtain ⟨A, c, e⟩ := hr.form
        have e' : [v1, v2, v3, (.slice (some ⟨w.heap.size, 3, none⟩) 32 32), v5, v6][i] = .slice A y.length c := e
        rw [e']; rfl
      refine wpList_rows rfl 6 _ rfl [v1, v2, v3, (.slice (some ⟨w.heap.size, 3, none⟩) 32 32), v5, v6] rfl (by decide) (by decide) hcs (by simp [Act.eval]) ?_
      have hr : Bsr (u5.alloc (.cells [v1, v2, v3, (.slice (some ⟨w.heap.size, 3, none⟩) 32 32), v5, v6].toArray 50)) (fun b => b < u5.heap.size + 1) (.slice (some ⟨u5.heap.size, 0, none⟩) 6 6) [numB x0, numB x1, numB x2, x3, (Sh.list i64).enc x4, (Sh.list tSig).enc x5] := g6.row (by simp [maxLen]) 50
      have hj := rJoin_any _ hr (by have := HLL.out; omega) (fun b hb => by simpa using hb)
      have hbb : Below w.heap.size w (u5.alloc (.cells [v1, v2, v3, (.slice (some ⟨w.heap.size, 3, none⟩) 32 32), v5, v6].toArray 50)) := (hbw.trans (g6.1.mono hbw.size)).alloc (hbw.trans (g6.1.mono hbw.size)).size _
      have HJ := Lib.hid hj
      have HBB := Lib.hid hbb
      clear hj hbb hr g6 hcs
      go_wp2_with fail
      refine HJ.out.mono ?_
      rintro e uz ⟨vz, rfl, fz⟩
      go_wp2_with fail
      go_ret
      exact ⟨vz, rfl, fz.1.sub fun b hb _ => ⟨Nat.le_trans HBB.out.size hb.1, hb.2⟩, HBB.out.trans (fz.2.mono HBB.out.size)⟩

end Go.Proofs.YtjjgmkfkmckkoabGreatDoor

/- Codec: reference: a commit. -/
namespace Go.Proofs.YtjjgmkfkmckkoabGreatDoor
open Go.RowKit Go.Maps
attribute [-simp] Tryz.isAgg24 Tryz.typeInfo24 Tryz.isAgg29 Tryz.typeInfo29 Tryz.isAgg33 Tryz.typeInfo33

set_option maxHeartbeats 8000000 in
set_option maxRecDepth 100000 in
theorem rCommit_any (w : World) {S : Nat → Prop} {x : tCommit.El} {cs : List Value} (h : tCommit.rep w S x cs) (hl : (tCommit.enc x).length ≤ 1099511627776) :
    Calls Tryz.prog 54 #[.agg cs.toArray] w fun e w' => ∃ v', e = .returned v' ∧ Fresh w w' v' (tCommit.enc x) := by
  obtain ⟨x0, x1, _⟩ := x
  obtain ⟨c0, _, rfl, r0, c1, _, rfl, r1, rfl⟩ := h
  obtain ⟨y0, rfl⟩ : ∃ y, c0 = [y] := by obtain ⟨v, _, e, _⟩ := r0; exact ⟨v, e⟩
  have l1 : c1.length = 37 := Sh.rep_size _ _ _ r1
  obtain ⟨y1, hy1⟩ : ∃ y, y = c1 := ⟨_, rfl⟩
  subst hy1
  obtain ⟨A0, cap0, rfl, hlen0, _⟩ := list_at r0
  have R0 := Lib.hid r0; clear r0
  have R1 := Lib.hid r1; clear r1
  obtain ⟨C, hC⟩ : ∃ C, C = [Value.slice A0 (List.length (α := (tHeader).El) x0) cap0] ++ (y1 ++ ([])) := ⟨_, rfl⟩
  rw [← hC]
  have hf : ∀ w', Blk w' w.heap.size 56 C.toArray → w'.cell? ⟨w.heap.size, 0, none⟩ = some (.slice A0 (List.length (α := (tHeader).El) x0) cap0) ∧ w'.rangeAt w.heap.size 1 y1 := fun w' hb => by
    have := hb.lies [[Value.slice A0 (List.length (α := (tHeader).El) x0) cap0], y1] [] (by rw [hC]; simp)
    simp only [Lies, List.length_cons, List.length_nil] at this
    obtain ⟨s0, s1, _⟩ := this
    exact ⟨Lies.one s0, s1⟩
  have HF := Lib.hid hf
  clear hf hC
  have L1 := Lib.hid l1; clear l1
  have hl' : (joinB [(Sh.list tHeader).enc x0, tQC.enc x1]).length ≤ 1099511627776 := hl
  have HLL := Lib.hid hl'
  clear hl hl'
  have HE0 := Lib.hid (show ((Sh.list tHeader).enc x0).length ≤ 1099511627776 from (by have h1 := HLL.out; rw [joinB_length] at h1; have h2 := joinP_mem (l := [(Sh.list tHeader).enc x0, tQC.enc x1]) (x := (Sh.list tHeader).enc x0) (by simp); omega))
  have hcn0 : (List.length (α := (tHeader).El) x0) ≤ 137438953472 := by
    have h1 := HE0.out
    have h2 := joinP_count (List.map (tHeader).enc x0)
    have h3 : ((Sh.list tHeader).enc x0).length = 8 + (joinP (List.map (tHeader).enc x0)).length := joinB_length _
    rw [List.length_map] at h2
    omega
  have HEJ0 := Lib.hid (show (joinB (List.map (tHeader).enc x0)).length ≤ 140737488355328 from by
    have h1 := HE0.out
    have h3 : ((Sh.list tHeader).enc x0).length = 8 + (joinP (List.map (tHeader).enc x0)).length := joinB_length _
    rw [joinB_length]
    omega)
  go_enter Tryz.func54, Tryz.ntmps54
  go_wp2_with fail
  have hbe := (Below.refl w.heap.size w).alloc (Nat.le_refl _) (.cells C.toArray 56)
  have hal0 : Below (w.heap.size + 1) (w.alloc (.cells C.toArray 56)) ((w.alloc (.cells C.toArray 56)).alloc (.cells #[] 50)) := (Below.refl _ _).alloc (by simp) _
  have hMb : w.heap.size < w.heap.size + 1 := by omega
  go_loopw [3, 4] (fun o i wr => ∃ k : Nat, k ≤ (List.length (α := (tHeader).El) x0) ∧ i = .int .i64 k ∧ Bss wr (fun b => (w.heap.size + 1) ≤ b) (fun b => (w.heap.size + 1) ≤ b) o ((List.take k x0).map (tHeader).enc) ∧ Below w.heap.size w wr ∧ (w.heap.size + 1) ≤ wr.heap.size ∧ Blk wr w.heap.size 56 C.toArray) (fun _ i _ => (List.length (α := (tHeader).El) x0) - (intOf i).toNat)
  case atStart => exact ⟨0, Nat.zero_le _, rfl, Bss.empty1 w _, hbe.alloc (by simp) _, by simp, ((Blk.new w _ _).alloc _)⟩
  case round =>
    obtain ⟨k, hk, rfl, hB, hbl, hMz, hbox⟩ := hrel
    by_cases hlt : k < (List.length (α := (tHeader).El) x0)
    · obtain ⟨R, hR⟩ : ∃ R, R = (List.take k x0).map (tHeader).enc := ⟨_, rfl⟩
      rw [← hR] at hB
      have hRl : R.length = k := by rw [hR, List.length_map, List.length_take]; omega
      have hnext : (List.take (k + 1) x0).map (tHeader).enc = R ++ [(tHeader).enc (x0[k]'hlt)] := by rw [List.take_succ_eq_append_getElem hlt, List.map_append, ← hR]; rfl
      obtain ⟨Aa, ca, rfl⟩ := hB.form
      obtain ⟨_, _, e, _, hat⟩ := list_at (Sh.rep_below R0.out hbl)
      injection e with e1 e2 e3
      subst e1 e3
      obtain ⟨b, off, c, rfl, hca, hr, hcl, hblt, _⟩ := hat k hlt
      obtain ⟨x, hx⟩ : ∃ x, x = x0[k]'hlt := ⟨_, rfl⟩
      rw [← hx] at hr hnext
      have hsm2 : ((tHeader).enc x).length ≤ 1099511627776 := by
        have h1 := joinP_mem (List.mem_map.2 ⟨x0[k]'hlt, List.getElem_mem hlt, rfl⟩ : (tHeader).enc (x0[k]'hlt) ∈ List.map (tHeader).enc x0)
        have h2 := HE0.out
        have h3 : ((Sh.list tHeader).enc x0).length = 8 + (joinP (List.map (tHeader).enc x0)).length := joinB_length _
        rw [hx]; omega
      have hinfo : (Tryz.prog.info? 29).map (·.size) = some c.length := by rw [hcl]; kernel_rfl
      have HCA := Lib.hid (show wr.rangeAt b (off + k * 101) c from hca)
      have HI := Lib.hid hinfo
      clear hinfo
      have HREP := Lib.hid hr
      have HSM := Lib.hid hsm2
      clear hr hsm2
      have hown : ∀ k, (Value.slice Aa R.length ca).ownBlock = some k → k < wr.heap.size := fun k hk => by obtain ⟨vs, ho, _⟩ := hB; exact own_lt ho hk
      have hbc := (HF.out wr hbox).1
      have HB := Lib.hid hB
      have HN := Lib.hid hnext
      have HRL := Lib.hid hRl
      have HOWN := Lib.hid hown
      have HBOX := Lib.hid hbox
      clear hB hca hcl hat hx hR hnext hRl hown hbox
      go_wp2_with (refine wpList_load_mid rfl 29 _ rfl b (off + k * 101) rfl c _ HCA.out Tryz.underlying29 rfl HI.out ?_)
      refine (rHeader_any _ HREP.out HSM.out).mono ?_
      rintro e w1 ⟨v1, rfl, f1⟩
      have hb1 := hbl.trans (f1.2.mono hbl.size)
      obtain ⟨y, hy⟩ : ∃ y, y = (tHeader).enc x := ⟨_, rfl⟩
      have f1 : Fresh wr w1 v1 y := hy ▸ f1
      rw [← hy] at HN
      obtain ⟨A1, c1, rfl⟩ := f1.1.form
      obtain ⟨vs, ho, hS, hr⟩ := HB.out.below f1.2
      have hsz1 := f1.2.size
      have hal : Below w1.heap.size w1 (w1.alloc (.cells #[.slice A1 y.length c1] 50)) := (Below.refl _ w1).alloc (Nat.le_refl _) _
      have HAL := Lib.hid hal
      have HO := Lib.hid (show Own (w1.alloc (.cells #[.slice A1 y.length c1] 50)) _ _ _ _ _ from own_keep ho fun k hk => hal.block k (own_lt ho hk))
      have HS := Lib.hid hS
      have HR := Lib.hid (fun i x u h1 h2 => (hr i x u h1 h2).below hal)
      have HU := Lib.hid ((f1.1.1.below hal).sub (T := fun b => (w.heap.size + 1) ≤ b ∧ (Value.slice Aa R.length ca).ownBlock ≠ some b) fun b hb _ => ⟨Nat.le_trans hMz hb.1, fun e => by have := HOWN.out b e; omega⟩)
      have HS2 := Lib.hid (Cs.of_new w1 50 (size := 1) 1 (cs := [.slice A1 y.length c1]) rfl (by simp only [maxLen]; decide))
      have H63 := Lib.hid (show R.length + 1 ≤ maxLen ∧ (R.length + 1) * 24 ≤ 140737488355328 from by have := HRL.out; refine ⟨by simp only [maxLen]; omega, by omega⟩)
      have HF2 := Lib.hid f1.2
      clear ho hS hr hal f1 hy
      go_wp2_with (at_builtin; refine wpList_app _ rfl _ _ _ rfl Tryz.underlying103 info_row rfl (by decide) HO.out rfl HS2.out rfl (by simp [Value.oneCell']) H63.out.1 H63.out.2 ?_; intro v3 w3 ho3 hg3 hnil3 hat3; clear hnil3; have HO3 := Lib.hid ho3; clear ho3; have HG3 := Lib.hid hg3; clear hg3; have HAT3 := Lib.hid hat3; clear hat3)
      have hzz := HAL.out.size
      have hz3 := HG3.out.size
      have hpush := Bss.push HO.out HS.out HR.out HU.out HO3.out HG3.out HAT3.out (by have := hb1.size; omega)
      rw [← HN.out] at hpush
      have hbA : Below w.heap.size w (w1.alloc (.cells #[.slice A1 y.length c1] 50)) := hb1.trans (HAL.out.mono hb1.size)
      have hbw3 := HF2.out.trans (HAL.out.mono hsz1)
      refine ⟨⟨k + 1, by omega, by push_cast; rfl, hpush, hbA.trans (HG3.out.below hbA.size fun b h => by have h1 := HS.out b h; have h2 := HBOX.out.lt; omega), by omega, (HBOX.out.below hbw3 HBOX.out.lt).chg HG3.out fun h => by have h1 := HS.out _ h; have h2 := hMb; omega⟩, ?_⟩
      simp only [intOf]
      omega
    · have hk' : k = (List.length (α := (tHeader).El) x0) := by omega
      rw [hk', List.take_length] at hB
      have hsm : ∀ x ∈ List.map (tHeader).enc x0, x.length ≤ 140737488355328 := fun x hx => by
        have h1 := joinP_mem hx
        have h2 := HE0.out
        have h3 : ((Sh.list tHeader).enc x0).length = 8 + (joinP (List.map (tHeader).enc x0)).length := joinB_length _
        omega
      have hEJ0 := HEJ0.out
      obtain ⟨R0m, hR0m⟩ : ∃ R, R = List.map (tHeader).enc x0 := ⟨_, rfl⟩
      rw [← hR0m] at hB hsm hEJ0
      have HRm0 := Lib.hid hR0m
      have HEK0 := Lib.hid hEJ0
      clear hR0m hEJ0
      have V0 := Lib.hid (((hB.read hsm).lt_ (T := fun _ => True) fun _ _ => trivial).subs (T := fun b => b < wr.heap.size) fun b hb _ => hb.2)
      obtain ⟨Ao0, co0, rfl⟩ := hB.form
      have hbc0 := (HF.out wr hbox).1
      clear hB hsm
      obtain ⟨w_0, hw_0⟩ : ∃ w', w' = wr := ⟨_, rfl⟩
      subst hw_0
      have HBX0 := Lib.hid hbox; have hmb0 := hbox.lt; clear hbox
      go_wp2_with fail
      clear hlt hk hk'
      have hsz := HBX0.out.lt
      have hb0 : Blk w_0.drew w.heap.size 56 C.toArray := HBX0.out.drew
      have hbw : Below w.heap.size w w_0.drew := (hbl).drew
      refine wp_region_hoist [0, 2, 3] [1, 4] [5, 6, 7] (fun w' => Blk w' w.heap.size 56 C.toArray)
        (by kernel_rfl) (by kernel_rfl) (by kernel_rfl) (by kernel_rfl) (by kernel_rfl) (by kernel_rfl) hb0 ?_
      (refine HoistK.yes (by rfl) (by kernel_rfl) ⟨?_, fun w' hSw => ?_, ?_⟩; rotate_left; (· go_simp; try with_reducible rfl); simp only [Act.put, List.setIfInBounds_toArray, List.getElem_toArray, List.getElem_cons_zero, List.set_cons_succ, List.set_cons_zero])
      (refine HoistK.yes (by rfl) (by kernel_rfl) ⟨?_, fun w' hSw => ?_, ?_⟩; rotate_left; (· go_simp; try with_reducible rfl); simp only [Act.put, List.setIfInBounds_toArray, List.getElem_toArray, List.getElem_cons_succ, List.getElem_cons_zero, List.set_cons_succ, List.set_cons_zero])
      (refine HoistK.load (by rfl) (by kernel_rfl) 33 _ rfl w.heap.size 1 rfl (y1) _ (fun w' hw => (HF.out w' hw).2) Tryz.underlying33 rfl (by rw [L1.out]; kernel_rfl) ?_; simp only [Act.put, List.setIfInBounds_toArray, List.getElem_toArray, List.getElem_cons_succ, List.getElem_cons_zero, List.set_cons_succ, List.set_cons_zero])
      refine HoistK.nil_ ?_
      simp only [opsAt, List.filterMap_cons, List.filterMap_nil, List.getElem?_toArray, List.getElem?_cons_succ, List.getElem?_cons_zero]
      have g0 : Got w_0.drew w_0.drew [] [] := Got.start (Below.refl _ _)
      refine Effects.cons_ fun _ hQ1 => ?_
      go_wp2_with fail
      refine (rJoin_any _ (V0.out.drew_.below g0.1) HEK0.out (fun b hb => Nat.lt_of_lt_of_le hb g0.1.size)).mono ?_
      rintro e u1 ⟨v1, rfl, f1⟩
      rw [HRm0.out] at f1
      have f1 : Fresh _ _ _ ((Sh.list tHeader).enc x0) := f1
      have g1 := g0.step f1
      have hb1 := hb0.below f1.2 hb0.lt
      clear f1
      go_wp2_with fail
      refine hQ1 _ _ hb1 (Effects.cons_ fun _ hQ2 => ?_)
      clear hQ1 hb0 g0
      go_wp2_with fail
      refine (rQC_any _ (Sh.rep_below R1.out (hbw.trans (g1.1.mono hbw.size))) (by have h1 := HLL.out; rw [joinB_length] at h1; have h2 := joinP_mem (l := [(Sh.list tHeader).enc x0, tQC.enc x1]) (x := tQC.enc x1) (by simp); omega)).mono ?_
      rintro e u2 ⟨v2, rfl, f2⟩
      have g2 := g1.step f2
      have hb2 := hb1.below f2.2 hb1.lt
      clear f2
      go_wp2_with fail
      refine hQ2 _ _ hb2 (Effects.nil_ fun _ hQ3 => ?_)
      clear hQ2 hb1 g1
      have hcs : ∀ v ∈ [v1, v2], v.cells = #[v] := fun v hv => by
        obtain ⟨i, hi, rfl⟩ := List.getElem_of_mem hv
        obtain ⟨y, _, hr⟩ := g2.2.get i hi
        obtain ⟨A, c, e⟩ := hr.form
        have e' : [v1, v2][i] = .slice A y.length c := e
        rw [e']; rfl
      refine wpList_rows rfl 2 _ rfl [v1, v2] rfl (by decide) (by decide) hcs (by simp [Act.eval]) ?_
      have hr : Bsr (u2.alloc (.cells [v1, v2].toArray 50)) (fun b => b < u2.heap.size + 1) (.slice (some ⟨u2.heap.size, 0, none⟩) 2 2) [(Sh.list tHeader).enc x0, tQC.enc x1] := g2.row (by simp [maxLen]) 50
      have hj := rJoin_any _ hr (by have := HLL.out; omega) (fun b hb => by simpa using hb)
      have hbb : Below w.heap.size w (u2.alloc (.cells [v1, v2].toArray 50)) := (hbw.trans (g2.1.mono hbw.size)).alloc (hbw.trans (g2.1.mono hbw.size)).size _
      have HJ := Lib.hid hj
      have HBB := Lib.hid hbb
      clear hj hbb hr g2 hcs
      go_wp2_with fail
      refine HJ.out.mono ?_
      rintro e uz ⟨vz, rfl, fz⟩
      go_wp2_with fail
      go_ret
      exact ⟨vz, rfl, fz.1.sub fun b hb _ => ⟨Nat.le_trans HBB.out.size hb.1, hb.2⟩, HBB.out.trans (fz.2.mono HBB.out.size)⟩

end Go.Proofs.YtjjgmkfkmckkoabGreatDoor

/- Codec: reference: a fact. -/
namespace Go.Proofs.YtjjgmkfkmckkoabGreatDoor
open Go.RowKit Go.Maps
attribute [-simp] Tryz.isAgg24 Tryz.typeInfo24 Tryz.isAgg56 Tryz.typeInfo56

set_option maxHeartbeats 8000000 in
set_option maxRecDepth 100000 in
theorem rFact_any (w : World) {S : Nat → Prop} {x : tFact.El} {cs : List Value} (h : tFact.rep w S x cs) (hl : (tFact.enc x).length ≤ 1099511627776) :
    Calls Tryz.prog 46 #[.agg cs.toArray] w fun e w' => ∃ v', e = .returned v' ∧ Fresh w w' v' (tFact.enc x) := by
  obtain ⟨x0, x1, x2, x3, x4, _⟩ := x
  obtain ⟨c0, _, rfl, r0, c1, _, rfl, ⟨rfl, l1⟩, c2, _, rfl, ⟨y2, rfl, r2⟩, c3, _, rfl, rfl, c4, _, rfl, ⟨y4, rfl, r4⟩, rfl⟩ := h
  have l0 : c0.length = 38 := Sh.rep_size _ _ _ r0
  obtain ⟨y0, hy0⟩ : ∃ y, y = c0 := ⟨_, rfl⟩
  subst hy0
  have R0 := Lib.hid r0; clear r0
  have R2 := Lib.hid r2; clear r2
  have R4 := Lib.hid r4; clear r4
  obtain ⟨C, hC⟩ : ∃ C, C = y0 ++ (u8s x1 ++ ([y2] ++ ([Value.bool x3] ++ ([y4] ++ ([]))))) := ⟨_, rfl⟩
  rw [← hC]
  have hf : ∀ w', Blk w' w.heap.size 58 C.toArray → w'.rangeAt w.heap.size 0 y0 ∧ w'.rangeAt w.heap.size 38 (u8s x1) ∧ w'.cell? ⟨w.heap.size, 70, none⟩ = some y2 ∧ w'.cell? ⟨w.heap.size, 71, none⟩ = some (.bool x3) ∧ w'.cell? ⟨w.heap.size, 72, none⟩ = some y4 := fun w' hb => by
    have := hb.lies [y0, u8s x1, [y2], [Value.bool x3], [y4]] [] (by rw [hC]; simp)
    simp only [Lies, u8s_length, l0, l1, List.length_cons, List.length_nil] at this
    obtain ⟨s0, s1, s2, s3, s4, _⟩ := this
    exact ⟨s0, s1, Lies.one s2, Lies.one s3, Lies.one s4⟩
  have HF := Lib.hid hf
  clear hf hC
  have L0 := Lib.hid l0; clear l0
  have L1 := Lib.hid l1; clear l1
  have hl' : (joinB [tCommit.enc x0, x1, x2, truthB x3, x4]).length ≤ 1099511627776 := hl
  have HLL := Lib.hid hl'
  clear hl hl'
  go_enter Tryz.func46, Tryz.ntmps46
  have hbe := (Below.refl w.heap.size w).alloc (Nat.le_refl _) (.cells C.toArray 58)
  have hbx := Blk.new w 58 C.toArray
  have hbool := (HF.out _ hbx).2.2.2.1
  rw [hbx.cell] at hbool
  have hbool : C[71]? = some (.bool x3) := by simpa using hbool
  have HBE := Lib.hid hbe
  have HBX := Lib.hid hbx
  have hn2 : ∀ y : UInt8, Bs ((w.alloc (.cells C.toArray 58)).alloc (.cells #[.int .u8 y.toNat] 5)) (fun b => b = w.heap.size + 1) (.slice (some ⟨w.heap.size + 1, 0, none⟩) 1 1) [y] := fun y => by
    have := Bs.of_new (w.alloc (.cells C.toArray 58)) 5 [y] (by simp) (0, 0)
    rwa [show (w.alloc (.cells C.toArray 58)).heap.size = w.heap.size + 1 by simp] at this
  have HN2 := Lib.hid hn2
  clear hbe hbx hn2
  cases x3
  · go_wp2_with fail
    have hbw2 : Below w.heap.size w ((w.alloc (.cells C.toArray 58)).alloc (.cells #[.int .u8 0] 5)) := HBE.out.alloc (by simp) _
    have HB3 := Lib.hid (show Bs ((w.alloc (.cells C.toArray 58)).alloc (.cells #[.int .u8 0] 5)).drew (fun b => b = w.heap.size + 1) (.slice (some ⟨w.heap.size + 1, 0, none⟩) 1 1) (truthB false) from HN2.out 0)
    have hbox2 : Blk ((w.alloc (.cells C.toArray 58)).alloc (.cells #[.int .u8 0] 5)) w.heap.size 58 C.toArray := HBX.out.alloc _
    obtain ⟨wB, hwB⟩ : ∃ wB, wB = (w.alloc (.cells C.toArray 58)).alloc (.cells #[.int .u8 0] 5) := ⟨_, rfl⟩
    rw [← hwB] at hbw2 HB3 hbox2 ⊢
    have HWB := Lib.hid hwB; clear hwB
    have hsz := hbox2.lt
    have hb0 : Blk wB.drew w.heap.size 58 C.toArray := hbox2.drew
    have hbw : Below w.heap.size w wB.drew := (hbw2).drew
    have D1 := Lib.hid (Bs.of_range32 (S := fun b => b = w.heap.size) rfl hb0.lt ((HF.out _ hb0).2.1) L1.out)
    refine wp_region_hoist [0, 1, 3, 4, 5, 6, 7, 8, 9] [2] [10, 11, 12] (fun w' => Blk w' w.heap.size 58 C.toArray)
      (by kernel_rfl) (by kernel_rfl) (by kernel_rfl) (by kernel_rfl) (by kernel_rfl) (by kernel_rfl) hb0 ?_
    (refine HoistK.yes (by rfl) (by kernel_rfl) ⟨?_, fun w' hSw => ?_, ?_⟩; rotate_left; (· go_simp; try with_reducible rfl); simp only [Act.put, List.setIfInBounds_toArray, List.getElem_toArray, List.getElem_cons_zero, List.set_cons_succ, List.set_cons_zero])
    (refine HoistK.load (by rfl) (by kernel_rfl) 56 _ rfl w.heap.size 0 rfl (y0) _ (fun w' hw => (HF.out w' hw).1) Tryz.underlying56 rfl (by rw [L0.out]; kernel_rfl) ?_; simp only [Act.put, List.setIfInBounds_toArray, List.getElem_toArray, List.getElem_cons_succ, List.getElem_cons_zero, List.set_cons_succ, List.set_cons_zero])
    (refine HoistK.yes (by rfl) (by kernel_rfl) ⟨?_, fun w' hSw => ?_, ?_⟩; rotate_left; (· go_simp; try with_reducible rfl); simp only [Act.put, List.setIfInBounds_toArray, List.getElem_toArray, List.getElem_cons_succ, List.getElem_cons_zero, List.set_cons_succ, List.set_cons_zero])
    (refine HoistK.yes (by rfl) (by kernel_rfl) ⟨?_, fun w' hSw => ?_, ?_⟩; rotate_left; (· go_simp; try with_reducible rfl); simp only [Act.put, List.setIfInBounds_toArray, List.getElem_toArray, List.getElem_cons_succ, List.getElem_cons_zero, List.set_cons_succ, List.set_cons_zero])
    (refine HoistK.yes (by rfl) (by kernel_rfl) ⟨?_, fun w' hSw => ?_, ?_⟩; rotate_left; (· go_simp; try with_reducible rfl); simp only [Act.put, List.setIfInBounds_toArray, List.getElem_toArray, List.getElem_cons_succ, List.getElem_cons_zero, List.set_cons_succ, List.set_cons_zero])
    (refine HoistK.yes (by rfl) (by kernel_rfl) ⟨?_, fun w' hSw => ?_, ?_⟩; rotate_left; (· obtain ⟨s0, s1, s2, s3, s4⟩ := HF.out _ hSw; go_simp; try with_reducible rfl); simp only [Act.put, List.setIfInBounds_toArray, List.getElem_toArray, List.getElem_cons_succ, List.getElem_cons_zero, List.set_cons_succ, List.set_cons_zero])
    (refine HoistK.yes (by rfl) (by kernel_rfl) ⟨?_, fun w' hSw => ?_, ?_⟩; rotate_left; (· go_simp; try with_reducible rfl); simp only [Act.put, List.setIfInBounds_toArray, List.getElem_toArray, List.getElem_cons_succ, List.getElem_cons_zero, List.set_cons_succ, List.set_cons_zero])
    (refine HoistK.yes (by rfl) (by kernel_rfl) ⟨?_, fun w' hSw => ?_, ?_⟩; rotate_left; (· go_simp; try with_reducible rfl); simp only [Act.put, List.setIfInBounds_toArray, List.getElem_toArray, List.getElem_cons_succ, List.getElem_cons_zero, List.set_cons_succ, List.set_cons_zero])
    (refine HoistK.yes (by rfl) (by kernel_rfl) ⟨?_, fun w' hSw => ?_, ?_⟩; rotate_left; (· obtain ⟨s0, s1, s2, s3, s4⟩ := HF.out _ hSw; go_simp; try with_reducible rfl); simp only [Act.put, List.setIfInBounds_toArray, List.getElem_toArray, List.getElem_cons_succ, List.getElem_cons_zero, List.set_cons_succ, List.set_cons_zero])
    refine HoistK.nil_ ?_
    simp only [opsAt, List.filterMap_cons, List.filterMap_nil, List.getElem?_toArray, List.getElem?_cons_succ, List.getElem?_cons_zero]
    have g0 : Got wB.drew wB.drew [] [] := Got.start (Below.refl _ _)
    refine Effects.cons_ fun _ hQ1 => ?_
    go_wp2_with fail
    refine (rCommit_any _ (Sh.rep_below R0.out (hbw.trans (g0.1.mono hbw.size))) (by have h1 := HLL.out; rw [joinB_length] at h1; have h2 := joinP_mem (l := [tCommit.enc x0, x1, x2, truthB false, x4]) (x := tCommit.enc x0) (by simp); omega)).mono ?_
    rintro e u1 ⟨v1, rfl, f1⟩
    have g1 := g0.step f1
    have hb1 := hb0.below f1.2 hb0.lt
    clear f1
    go_wp2_with fail
    refine hQ1 _ _ hb1 (Effects.nil_ fun _ hQ2 => ?_)
    clear hQ1 hb0 g0
    have g2 := g1.old D1.out
    clear g1
    have g3 := g2.old (R2.out.below hbw)
    clear g2
    have g4 := g3.old HB3.out
    clear g3
    have g5 := g4.old (R4.out.below hbw)
    clear g4
    have hcs : ∀ v ∈ [v1, (.slice (some ⟨w.heap.size, 38, none⟩) 32 32), y2, (.slice (some ⟨w.heap.size + 1, 0, none⟩) 1 1), y4], v.cells = #[v] := fun v hv => by
      obtain ⟨i, hi, rfl⟩ := List.getElem_of_mem hv
      obtain ⟨y, _, hr⟩ := g5.2.get i hi
      obtain ⟨A, c, e⟩ := hr.form
      have e' : [v1, (.slice (some ⟨w.heap.size, 38, none⟩) 32 32), y2, (.slice (some ⟨w.heap.size + 1, 0, none⟩) 1 1), y4][i] = .slice A y.length c := e
      rw [e']; rfl
    refine wpList_rows rfl 5 _ rfl [v1, (.slice (some ⟨w.heap.size, 38, none⟩) 32 32), y2, (.slice (some ⟨w.heap.size + 1, 0, none⟩) 1 1), y4] rfl (by decide) (by decide) hcs (by simp [Act.eval]) ?_
    have hr : Bsr (u1.alloc (.cells [v1, (.slice (some ⟨w.heap.size, 38, none⟩) 32 32), y2, (.slice (some ⟨w.heap.size + 1, 0, none⟩) 1 1), y4].toArray 50)) (fun b => b < u1.heap.size + 1) (.slice (some ⟨u1.heap.size, 0, none⟩) 5 5) [tCommit.enc x0, x1, x2, truthB false, x4] := g5.row (by simp [maxLen]) 50
    have hj := rJoin_any _ hr (by have := HLL.out; omega) (fun b hb => by simpa using hb)
    have hbb : Below w.heap.size w (u1.alloc (.cells [v1, (.slice (some ⟨w.heap.size, 38, none⟩) 32 32), y2, (.slice (some ⟨w.heap.size + 1, 0, none⟩) 1 1), y4].toArray 50)) := (hbw.trans (g5.1.mono hbw.size)).alloc (hbw.trans (g5.1.mono hbw.size)).size _
    have HJ := Lib.hid hj
    have HBB := Lib.hid hbb
    clear hj hbb hr g5 hcs
    go_wp2_with fail
    refine HJ.out.mono ?_
    rintro e uz ⟨vz, rfl, fz⟩
    go_wp2_with fail
    go_ret
    exact ⟨vz, rfl, fz.1.sub fun b hb _ => ⟨Nat.le_trans HBB.out.size hb.1, hb.2⟩, HBB.out.trans (fz.2.mono HBB.out.size)⟩
  · go_wp2_with fail
    have hbw2 : Below w.heap.size w ((w.alloc (.cells C.toArray 58)).alloc (.cells #[.int .u8 1] 5)) := HBE.out.alloc (by simp) _
    have HB3 := Lib.hid (show Bs ((w.alloc (.cells C.toArray 58)).alloc (.cells #[.int .u8 1] 5)).drew (fun b => b = w.heap.size + 1) (.slice (some ⟨w.heap.size + 1, 0, none⟩) 1 1) (truthB true) from HN2.out 1)
    have hbox2 : Blk ((w.alloc (.cells C.toArray 58)).alloc (.cells #[.int .u8 1] 5)) w.heap.size 58 C.toArray := HBX.out.alloc _
    obtain ⟨wB, hwB⟩ : ∃ wB, wB = (w.alloc (.cells C.toArray 58)).alloc (.cells #[.int .u8 1] 5) := ⟨_, rfl⟩
    rw [← hwB] at hbw2 HB3 hbox2 ⊢
    have HWB := Lib.hid hwB; clear hwB
    have hsz := hbox2.lt
    have hb0 : Blk wB.drew w.heap.size 58 C.toArray := hbox2.drew
    have hbw : Below w.heap.size w wB.drew := (hbw2).drew
    have D1 := Lib.hid (Bs.of_range32 (S := fun b => b = w.heap.size) rfl hb0.lt ((HF.out _ hb0).2.1) L1.out)
    refine wp_region_hoist [0, 1, 3, 4, 5, 6, 7, 8, 9] [2] [10, 11, 12] (fun w' => Blk w' w.heap.size 58 C.toArray)
      (by kernel_rfl) (by kernel_rfl) (by kernel_rfl) (by kernel_rfl) (by kernel_rfl) (by kernel_rfl) hb0 ?_
    (refine HoistK.yes (by rfl) (by kernel_rfl) ⟨?_, fun w' hSw => ?_, ?_⟩; rotate_left; (· go_simp; try with_reducible rfl); simp only [Act.put, List.setIfInBounds_toArray, List.getElem_toArray, List.getElem_cons_zero, List.set_cons_succ, List.set_cons_zero])
    (refine HoistK.load (by rfl) (by kernel_rfl) 56 _ rfl w.heap.size 0 rfl (y0) _ (fun w' hw => (HF.out w' hw).1) Tryz.underlying56 rfl (by rw [L0.out]; kernel_rfl) ?_; simp only [Act.put, List.setIfInBounds_toArray, List.getElem_toArray, List.getElem_cons_succ, List.getElem_cons_zero, List.set_cons_succ, List.set_cons_zero])
    (refine HoistK.yes (by rfl) (by kernel_rfl) ⟨?_, fun w' hSw => ?_, ?_⟩; rotate_left; (· go_simp; try with_reducible rfl); simp only [Act.put, List.setIfInBounds_toArray, List.getElem_toArray, List.getElem_cons_succ, List.getElem_cons_zero, List.set_cons_succ, List.set_cons_zero])
    (refine HoistK.yes (by rfl) (by kernel_rfl) ⟨?_, fun w' hSw => ?_, ?_⟩; rotate_left; (· go_simp; try with_reducible rfl); simp only [Act.put, List.setIfInBounds_toArray, List.getElem_toArray, List.getElem_cons_succ, List.getElem_cons_zero, List.set_cons_succ, List.set_cons_zero])
    (refine HoistK.yes (by rfl) (by kernel_rfl) ⟨?_, fun w' hSw => ?_, ?_⟩; rotate_left; (· go_simp; try with_reducible rfl); simp only [Act.put, List.setIfInBounds_toArray, List.getElem_toArray, List.getElem_cons_succ, List.getElem_cons_zero, List.set_cons_succ, List.set_cons_zero])
    (refine HoistK.yes (by rfl) (by kernel_rfl) ⟨?_, fun w' hSw => ?_, ?_⟩; rotate_left; (· obtain ⟨s0, s1, s2, s3, s4⟩ := HF.out _ hSw; go_simp; try with_reducible rfl); simp only [Act.put, List.setIfInBounds_toArray, List.getElem_toArray, List.getElem_cons_succ, List.getElem_cons_zero, List.set_cons_succ, List.set_cons_zero])
    (refine HoistK.yes (by rfl) (by kernel_rfl) ⟨?_, fun w' hSw => ?_, ?_⟩; rotate_left; (· go_simp; try with_reducible rfl); simp only [Act.put, List.setIfInBounds_toArray, List.getElem_toArray, List.getElem_cons_succ, List.getElem_cons_zero, List.set_cons_succ, List.set_cons_zero])
    (refine HoistK.yes (by rfl) (by kernel_rfl) ⟨?_, fun w' hSw => ?_, ?_⟩; rotate_left; (· go_simp; try with_reducible rfl); simp only [Act.put, List.setIfInBounds_toArray, List.getElem_toArray, List.getElem_cons_succ, List.getElem_cons_zero, List.set_cons_succ, List.set_cons_zero])
    (refine HoistK.yes (by rfl) (by kernel_rfl) ⟨?_, fun w' hSw => ?_, ?_⟩; rotate_left; (· obtain ⟨s0, s1, s2, s3, s4⟩ := HF.out _ hSw; go_simp; try with_reducible rfl); simp only [Act.put, List.setIfInBounds_toArray, List.getElem_toArray, List.getElem_cons_succ, List.getElem_cons_zero, List.set_cons_succ, List.set_cons_zero])
    refine HoistK.nil_ ?_
    simp only [opsAt, List.filterMap_cons, List.filterMap_nil, List.getElem?_toArray, List.getElem?_cons_succ, List.getElem?_cons_zero]
    have g0 : Got wB.drew wB.drew [] [] := Got.start (Below.refl _ _)
    refine Effects.cons_ fun _ hQ1 => ?_
    go_wp2_with fail
    refine (rCommit_any _ (Sh.rep_below R0.out (hbw.trans (g0.1.mono hbw.size))) (by have h1 := HLL.out; rw [joinB_length] at h1; have h2 := joinP_mem (l := [tCommit.enc x0, x1, x2, truthB true, x4]) (x := tCommit.enc x0) (by simp); omega)).mono ?_
    rintro e u1 ⟨v1, rfl, f1⟩
    have g1 := g0.step f1
    have hb1 := hb0.below f1.2 hb0.lt
    clear f1
    go_wp2_with fail
    refine hQ1 _ _ hb1 (Effects.nil_ fun _ hQ2 => ?_)
    clear hQ1 hb0 g0
    have g2 := g1.old D1.out
    clear g1
    have g3 := g2.old (R2.out.below hbw)
    clear g2
    have g4 := g3.old HB3.out
    clear g3
    have g5 := g4.old (R4.out.below hbw)
    clear g4
    have hcs : ∀ v ∈ [v1, (.slice (some ⟨w.heap.size, 38, none⟩) 32 32), y2, (.slice (some ⟨w.heap.size + 1, 0, none⟩) 1 1), y4], v.cells = #[v] := fun v hv => by
      obtain ⟨i, hi, rfl⟩ := List.getElem_of_mem hv
      obtain ⟨y, _, hr⟩ := g5.2.get i hi
      obtain ⟨A, c, e⟩ := hr.form
      have e' : [v1, (.slice (some ⟨w.heap.size, 38, none⟩) 32 32), y2, (.slice (some ⟨w.heap.size + 1, 0, none⟩) 1 1), y4][i] = .slice A y.length c := e
      rw [e']; rfl
    refine wpList_rows rfl 5 _ rfl [v1, (.slice (some ⟨w.heap.size, 38, none⟩) 32 32), y2, (.slice (some ⟨w.heap.size + 1, 0, none⟩) 1 1), y4] rfl (by decide) (by decide) hcs (by simp [Act.eval]) ?_
    have hr : Bsr (u1.alloc (.cells [v1, (.slice (some ⟨w.heap.size, 38, none⟩) 32 32), y2, (.slice (some ⟨w.heap.size + 1, 0, none⟩) 1 1), y4].toArray 50)) (fun b => b < u1.heap.size + 1) (.slice (some ⟨u1.heap.size, 0, none⟩) 5 5) [tCommit.enc x0, x1, x2, truthB true, x4] := g5.row (by simp [maxLen]) 50
    have hj := rJoin_any _ hr (by have := HLL.out; omega) (fun b hb => by simpa using hb)
    have hbb : Below w.heap.size w (u1.alloc (.cells [v1, (.slice (some ⟨w.heap.size, 38, none⟩) 32 32), y2, (.slice (some ⟨w.heap.size + 1, 0, none⟩) 1 1), y4].toArray 50)) := (hbw.trans (g5.1.mono hbw.size)).alloc (hbw.trans (g5.1.mono hbw.size)).size _
    have HJ := Lib.hid hj
    have HBB := Lib.hid hbb
    clear hj hbb hr g5 hcs
    go_wp2_with fail
    refine HJ.out.mono ?_
    rintro e uz ⟨vz, rfl, fz⟩
    go_wp2_with fail
    go_ret
    exact ⟨vz, rfl, fz.1.sub fun b hb _ => ⟨Nat.le_trans HBB.out.size hb.1, hb.2⟩, HBB.out.trans (fz.2.mono HBB.out.size)⟩

end Go.Proofs.YtjjgmkfkmckkoabGreatDoor

/- Codec: reference: a transaction. -/
namespace Go.Proofs.YtjjgmkfkmckkoabGreatDoor
open Go.RowKit Go.Maps
attribute [-simp] Tryz.isAgg24 Tryz.typeInfo24 Tryz.isAgg58 Tryz.typeInfo58

set_option maxHeartbeats 8000000 in
set_option maxRecDepth 100000 in
theorem rTx_any (w : World) {S : Nat → Prop} {x : tTx.El} {cs : List Value} (h : tTx.rep w S x cs) (hl : (tTx.enc x).length ≤ 1099511627776) :
    Calls Tryz.prog 17 #[.agg cs.toArray] w fun e w' => ∃ v', e = .returned v' ∧ Fresh w w' v' (tTx.enc x) := by
  obtain ⟨x0, x1, x2, x3, x4, x5, x6, x7, x8, x9, _⟩ := x
  obtain ⟨c0, _, rfl, ⟨rfl, _⟩, c1, _, rfl, ⟨rfl, q1⟩, c2, _, rfl, ⟨rfl, q2⟩, c3, _, rfl, ⟨rfl, q3⟩, c4, _, rfl, ⟨rfl, q4⟩, c5, _, rfl, ⟨rfl, _⟩, c6, _, rfl, ⟨rfl, _⟩, c7, _, rfl, ⟨rfl, l7⟩, c8, _, rfl, ⟨rfl, _⟩, c9, _, rfl, r9, rfl⟩ := h
  obtain ⟨y9, rfl⟩ : ∃ y, c9 = [y] := by obtain ⟨v, _, e, _⟩ := r9; exact ⟨v, e⟩
  obtain ⟨A9, cap9, rfl, hlen9, _⟩ := list_at r9
  have Q1 := Lib.hid q1; clear q1
  have Q2 := Lib.hid q2; clear q2
  have Q3 := Lib.hid q3; clear q3
  have Q4 := Lib.hid q4; clear q4
  have R9 := Lib.hid r9; clear r9
  simp only [nk_t, nk_f]
  obtain ⟨C, hC⟩ : ∃ C, C = [Value.int .i64 x0] ++ ([Value.int .u64 x1] ++ ([Value.int .u64 x2] ++ ([Value.int .u64 x3] ++ ([Value.int .u64 x4] ++ ([Value.int .i64 x5] ++ ([Value.int .i64 x6] ++ (u8s x7 ++ ([Value.int .i64 x8] ++ ([Value.slice A9 (List.length (α := (tFact).El) x9) cap9] ++ ([])))))))))) := ⟨_, rfl⟩
  rw [← hC]
  have hf : ∀ w', Blk w' w.heap.size 27 C.toArray → w'.cell? ⟨w.heap.size, 0, none⟩ = some (.int .i64 x0) ∧ w'.cell? ⟨w.heap.size, 1, none⟩ = some (.int .u64 x1) ∧ w'.cell? ⟨w.heap.size, 2, none⟩ = some (.int .u64 x2) ∧ w'.cell? ⟨w.heap.size, 3, none⟩ = some (.int .u64 x3) ∧ w'.cell? ⟨w.heap.size, 4, none⟩ = some (.int .u64 x4) ∧ w'.cell? ⟨w.heap.size, 5, none⟩ = some (.int .i64 x5) ∧ w'.cell? ⟨w.heap.size, 6, none⟩ = some (.int .i64 x6) ∧ w'.rangeAt w.heap.size 7 (u8s x7) ∧ w'.cell? ⟨w.heap.size, 39, none⟩ = some (.int .i64 x8) ∧ w'.cell? ⟨w.heap.size, 40, none⟩ = some (.slice A9 (List.length (α := (tFact).El) x9) cap9) := fun w' hb => by
    have := hb.lies [[Value.int .i64 x0], [Value.int .u64 x1], [Value.int .u64 x2], [Value.int .u64 x3], [Value.int .u64 x4], [Value.int .i64 x5], [Value.int .i64 x6], u8s x7, [Value.int .i64 x8], [Value.slice A9 (List.length (α := (tFact).El) x9) cap9]] [] (by rw [hC]; simp)
    simp only [Lies, u8s_length, l7, List.length_cons, List.length_nil] at this
    obtain ⟨s0, s1, s2, s3, s4, s5, s6, s7, s8, s9, _⟩ := this
    exact ⟨Lies.one s0, Lies.one s1, Lies.one s2, Lies.one s3, Lies.one s4, Lies.one s5, Lies.one s6, s7, Lies.one s8, Lies.one s9⟩
  have HF := Lib.hid hf
  clear hf hC
  have L7 := Lib.hid l7; clear l7
  have hl' : (joinB [numB x0, numB x1, numB x2, numB x3, numB x4, numB x5, numB x6, x7, numB x8, (Sh.list tFact).enc x9]).length ≤ 1099511627776 := hl
  have HLL := Lib.hid hl'
  clear hl hl'
  have HE9 := Lib.hid (show ((Sh.list tFact).enc x9).length ≤ 1099511627776 from (by have h1 := HLL.out; rw [joinB_length] at h1; have h2 := joinP_mem (l := [numB x0, numB x1, numB x2, numB x3, numB x4, numB x5, numB x6, x7, numB x8, (Sh.list tFact).enc x9]) (x := (Sh.list tFact).enc x9) (by simp); omega))
  have hcn9 : (List.length (α := (tFact).El) x9) ≤ 137438953472 := by
    have h1 := HE9.out
    have h2 := joinP_count (List.map (tFact).enc x9)
    have h3 : ((Sh.list tFact).enc x9).length = 8 + (joinP (List.map (tFact).enc x9)).length := joinB_length _
    rw [List.length_map] at h2
    omega
  have HEJ9 := Lib.hid (show (joinB (List.map (tFact).enc x9)).length ≤ 140737488355328 from by
    have h1 := HE9.out
    have h3 : ((Sh.list tFact).enc x9).length = 8 + (joinP (List.map (tFact).enc x9)).length := joinB_length _
    rw [joinB_length]
    omega)
  go_enter Tryz.func17, Tryz.ntmps17
  go_wp2_with fail
  have hbe := (Below.refl w.heap.size w).alloc (Nat.le_refl _) (.cells C.toArray 27)
  have hal0 : Below (w.heap.size + 1) (w.alloc (.cells C.toArray 27)) ((w.alloc (.cells C.toArray 27)).alloc (.cells #[] 50)) := (Below.refl _ _).alloc (by simp) _
  have hMb : w.heap.size < w.heap.size + 1 := by omega
  go_loopw [3, 4] (fun o i wr => ∃ k : Nat, k ≤ (List.length (α := (tFact).El) x9) ∧ i = .int .i64 k ∧ Bss wr (fun b => (w.heap.size + 1) ≤ b) (fun b => (w.heap.size + 1) ≤ b) o ((List.take k x9).map (tFact).enc) ∧ Below w.heap.size w wr ∧ (w.heap.size + 1) ≤ wr.heap.size ∧ Blk wr w.heap.size 27 C.toArray) (fun _ i _ => (List.length (α := (tFact).El) x9) - (intOf i).toNat)
  case atStart => exact ⟨0, Nat.zero_le _, rfl, Bss.empty1 w _, hbe.alloc (by simp) _, by simp, ((Blk.new w _ _).alloc _)⟩
  case round =>
    obtain ⟨k, hk, rfl, hB, hbl, hMz, hbox⟩ := hrel
    by_cases hlt : k < (List.length (α := (tFact).El) x9)
    · obtain ⟨R, hR⟩ : ∃ R, R = (List.take k x9).map (tFact).enc := ⟨_, rfl⟩
      rw [← hR] at hB
      have hRl : R.length = k := by rw [hR, List.length_map, List.length_take]; omega
      have hnext : (List.take (k + 1) x9).map (tFact).enc = R ++ [(tFact).enc (x9[k]'hlt)] := by rw [List.take_succ_eq_append_getElem hlt, List.map_append, ← hR]; rfl
      obtain ⟨Aa, ca, rfl⟩ := hB.form
      obtain ⟨_, _, e, _, hat⟩ := list_at (Sh.rep_below R9.out hbl)
      injection e with e1 e2 e3
      subst e1 e3
      obtain ⟨b, off, c, rfl, hca, hr, hcl, hblt, _⟩ := hat k hlt
      obtain ⟨x, hx⟩ : ∃ x, x = x9[k]'hlt := ⟨_, rfl⟩
      rw [← hx] at hr hnext
      have hsm2 : ((tFact).enc x).length ≤ 1099511627776 := by
        have h1 := joinP_mem (List.mem_map.2 ⟨x9[k]'hlt, List.getElem_mem hlt, rfl⟩ : (tFact).enc (x9[k]'hlt) ∈ List.map (tFact).enc x9)
        have h2 := HE9.out
        have h3 : ((Sh.list tFact).enc x9).length = 8 + (joinP (List.map (tFact).enc x9)).length := joinB_length _
        rw [hx]; omega
      have hinfo : (Tryz.prog.info? 58).map (·.size) = some c.length := by rw [hcl]; kernel_rfl
      have HCA := Lib.hid (show wr.rangeAt b (off + k * 73) c from hca)
      have HI := Lib.hid hinfo
      clear hinfo
      have HREP := Lib.hid hr
      have HSM := Lib.hid hsm2
      clear hr hsm2
      have hown : ∀ k, (Value.slice Aa R.length ca).ownBlock = some k → k < wr.heap.size := fun k hk => by obtain ⟨vs, ho, _⟩ := hB; exact own_lt ho hk
      have hbc := (HF.out wr hbox).2.2.2.2.2.2.2.2.2
      have HB := Lib.hid hB
      have HN := Lib.hid hnext
      have HRL := Lib.hid hRl
      have HOWN := Lib.hid hown
      have HBOX := Lib.hid hbox
      clear hB hca hcl hat hx hR hnext hRl hown hbox
      go_wp2_with (refine wpList_load_mid rfl 58 _ rfl b (off + k * 73) rfl c _ HCA.out Tryz.underlying58 rfl HI.out ?_)
      refine (rFact_any _ HREP.out HSM.out).mono ?_
      rintro e w1 ⟨v1, rfl, f1⟩
      have hb1 := hbl.trans (f1.2.mono hbl.size)
      obtain ⟨y, hy⟩ : ∃ y, y = (tFact).enc x := ⟨_, rfl⟩
      have f1 : Fresh wr w1 v1 y := hy ▸ f1
      rw [← hy] at HN
      obtain ⟨A1, c1, rfl⟩ := f1.1.form
      obtain ⟨vs, ho, hS, hr⟩ := HB.out.below f1.2
      have hsz1 := f1.2.size
      have hal : Below w1.heap.size w1 (w1.alloc (.cells #[.slice A1 y.length c1] 50)) := (Below.refl _ w1).alloc (Nat.le_refl _) _
      have HAL := Lib.hid hal
      have HO := Lib.hid (show Own (w1.alloc (.cells #[.slice A1 y.length c1] 50)) _ _ _ _ _ from own_keep ho fun k hk => hal.block k (own_lt ho hk))
      have HS := Lib.hid hS
      have HR := Lib.hid (fun i x u h1 h2 => (hr i x u h1 h2).below hal)
      have HU := Lib.hid ((f1.1.1.below hal).sub (T := fun b => (w.heap.size + 1) ≤ b ∧ (Value.slice Aa R.length ca).ownBlock ≠ some b) fun b hb _ => ⟨Nat.le_trans hMz hb.1, fun e => by have := HOWN.out b e; omega⟩)
      have HS2 := Lib.hid (Cs.of_new w1 50 (size := 1) 1 (cs := [.slice A1 y.length c1]) rfl (by simp only [maxLen]; decide))
      have H63 := Lib.hid (show R.length + 1 ≤ maxLen ∧ (R.length + 1) * 24 ≤ 140737488355328 from by have := HRL.out; refine ⟨by simp only [maxLen]; omega, by omega⟩)
      have HF2 := Lib.hid f1.2
      clear ho hS hr hal f1 hy
      go_wp2_with (at_builtin; refine wpList_app _ rfl _ _ _ rfl Tryz.underlying103 info_row rfl (by decide) HO.out rfl HS2.out rfl (by simp [Value.oneCell']) H63.out.1 H63.out.2 ?_; intro v3 w3 ho3 hg3 hnil3 hat3; clear hnil3; have HO3 := Lib.hid ho3; clear ho3; have HG3 := Lib.hid hg3; clear hg3; have HAT3 := Lib.hid hat3; clear hat3)
      have hzz := HAL.out.size
      have hz3 := HG3.out.size
      have hpush := Bss.push HO.out HS.out HR.out HU.out HO3.out HG3.out HAT3.out (by have := hb1.size; omega)
      rw [← HN.out] at hpush
      have hbA : Below w.heap.size w (w1.alloc (.cells #[.slice A1 y.length c1] 50)) := hb1.trans (HAL.out.mono hb1.size)
      have hbw3 := HF2.out.trans (HAL.out.mono hsz1)
      refine ⟨⟨k + 1, by omega, by push_cast; rfl, hpush, hbA.trans (HG3.out.below hbA.size fun b h => by have h1 := HS.out b h; have h2 := HBOX.out.lt; omega), by omega, (HBOX.out.below hbw3 HBOX.out.lt).chg HG3.out fun h => by have h1 := HS.out _ h; have h2 := hMb; omega⟩, ?_⟩
      simp only [intOf]
      omega
    · have hk' : k = (List.length (α := (tFact).El) x9) := by omega
      rw [hk', List.take_length] at hB
      have hsm : ∀ x ∈ List.map (tFact).enc x9, x.length ≤ 140737488355328 := fun x hx => by
        have h1 := joinP_mem hx
        have h2 := HE9.out
        have h3 : ((Sh.list tFact).enc x9).length = 8 + (joinP (List.map (tFact).enc x9)).length := joinB_length _
        omega
      have hEJ9 := HEJ9.out
      obtain ⟨R9m, hR9m⟩ : ∃ R, R = List.map (tFact).enc x9 := ⟨_, rfl⟩
      rw [← hR9m] at hB hsm hEJ9
      have HRm9 := Lib.hid hR9m
      have HEK9 := Lib.hid hEJ9
      clear hR9m hEJ9
      have V9 := Lib.hid (((hB.read hsm).lt_ (T := fun _ => True) fun _ _ => trivial).subs (T := fun b => b < wr.heap.size) fun b hb _ => hb.2)
      obtain ⟨Ao9, co9, rfl⟩ := hB.form
      have hbc9 := (HF.out wr hbox).2.2.2.2.2.2.2.2.2
      clear hB hsm
      obtain ⟨w_9, hw_9⟩ : ∃ w', w' = wr := ⟨_, rfl⟩
      subst hw_9
      have HBX9 := Lib.hid hbox; have hmb9 := hbox.lt; clear hbox
      go_wp2_with fail
      clear hlt hk hk'
      have hsz := HBX9.out.lt
      have hb0 : Blk w_9.drew w.heap.size 27 C.toArray := HBX9.out.drew
      have hbw : Below w.heap.size w w_9.drew := (hbl).drew
      have D7 := Lib.hid (Bs.of_range32 (S := fun b => b = w.heap.size) rfl hb0.lt ((HF.out _ hb0).2.2.2.2.2.2.2.1) L7.out)
      refine wp_region_hoist [0, 1, 2, 4, 5, 7, 8, 10, 11, 13, 14, 16, 17, 18, 20, 21, 22, 24, 25, 26, 27, 28, 30] [3, 6, 9, 12, 15, 19, 23, 29, 31] [32, 33, 34] (fun w' => Blk w' w.heap.size 27 C.toArray)
        (by kernel_rfl) (by kernel_rfl) (by kernel_rfl) (by kernel_rfl) (by kernel_rfl) (by kernel_rfl) hb0 ?_
      (refine HoistK.yes (by rfl) (by kernel_rfl) ⟨?_, fun w' hSw => ?_, ?_⟩; rotate_left; (· go_simp; try with_reducible rfl); simp only [Act.put, List.setIfInBounds_toArray, List.getElem_toArray, List.getElem_cons_zero, List.set_cons_succ, List.set_cons_zero])
      (refine HoistK.yes (by rfl) (by kernel_rfl) ⟨?_, fun w' hSw => ?_, ?_⟩; rotate_left; (· obtain ⟨s0, s1, s2, s3, s4, s5, s6, s7, s8, s9⟩ := HF.out _ hSw; go_simp; try with_reducible rfl); simp only [Act.put, List.setIfInBounds_toArray, List.getElem_toArray, List.getElem_cons_succ, List.getElem_cons_zero, List.set_cons_succ, List.set_cons_zero])
      (refine HoistK.yes (by rfl) (by kernel_rfl) ⟨?_, fun w' hSw => ?_, ?_⟩; rotate_left; (· go_simp; try with_reducible rfl); simp only [Act.put, List.setIfInBounds_toArray, List.getElem_toArray, List.getElem_cons_succ, List.getElem_cons_zero, List.set_cons_succ, List.set_cons_zero])
      (refine HoistK.yes (by rfl) (by kernel_rfl) ⟨?_, fun w' hSw => ?_, ?_⟩; rotate_left; (· go_simp; try with_reducible rfl); simp only [Act.put, List.setIfInBounds_toArray, List.getElem_toArray, List.getElem_cons_succ, List.getElem_cons_zero, List.set_cons_succ, List.set_cons_zero])
      (refine HoistK.yes (by rfl) (by kernel_rfl) ⟨?_, fun w' hSw => ?_, ?_⟩; rotate_left; (· obtain ⟨s0, s1, s2, s3, s4, s5, s6, s7, s8, s9⟩ := HF.out _ hSw; go_simp; try with_reducible rfl); simp only [Act.put, List.setIfInBounds_toArray, List.getElem_toArray, List.getElem_cons_succ, List.getElem_cons_zero, List.set_cons_succ, List.set_cons_zero])
      (refine HoistK.yes (by rfl) (by kernel_rfl) ⟨?_, fun w' hSw => ?_, ?_⟩; rotate_left; (· go_simp; try with_reducible rfl); simp only [Act.put, List.setIfInBounds_toArray, List.getElem_toArray, List.getElem_cons_succ, List.getElem_cons_zero, List.set_cons_succ, List.set_cons_zero])
      (refine HoistK.yes (by rfl) (by kernel_rfl) ⟨?_, fun w' hSw => ?_, ?_⟩; rotate_left; (· obtain ⟨s0, s1, s2, s3, s4, s5, s6, s7, s8, s9⟩ := HF.out _ hSw; go_simp; try with_reducible rfl); simp only [Act.put, List.setIfInBounds_toArray, List.getElem_toArray, List.getElem_cons_succ, List.getElem_cons_zero, List.set_cons_succ, List.set_cons_zero])
      (refine HoistK.yes (by rfl) (by kernel_rfl) ⟨?_, fun w' hSw => ?_, ?_⟩; rotate_left; (· go_simp; try with_reducible rfl); simp only [Act.put, List.setIfInBounds_toArray, List.getElem_toArray, List.getElem_cons_succ, List.getElem_cons_zero, List.set_cons_succ, List.set_cons_zero])
      (refine HoistK.yes (by rfl) (by kernel_rfl) ⟨?_, fun w' hSw => ?_, ?_⟩; rotate_left; (· obtain ⟨s0, s1, s2, s3, s4, s5, s6, s7, s8, s9⟩ := HF.out _ hSw; go_simp; try with_reducible rfl); simp only [Act.put, List.setIfInBounds_toArray, List.getElem_toArray, List.getElem_cons_succ, List.getElem_cons_zero, List.set_cons_succ, List.set_cons_zero])
      (refine HoistK.yes (by rfl) (by kernel_rfl) ⟨?_, fun w' hSw => ?_, ?_⟩; rotate_left; (· go_simp; try with_reducible rfl); simp only [Act.put, List.setIfInBounds_toArray, List.getElem_toArray, List.getElem_cons_succ, List.getElem_cons_zero, List.set_cons_succ, List.set_cons_zero])
      (refine HoistK.yes (by rfl) (by kernel_rfl) ⟨?_, fun w' hSw => ?_, ?_⟩; rotate_left; (· obtain ⟨s0, s1, s2, s3, s4, s5, s6, s7, s8, s9⟩ := HF.out _ hSw; go_simp; try with_reducible rfl); simp only [Act.put, List.setIfInBounds_toArray, List.getElem_toArray, List.getElem_cons_succ, List.getElem_cons_zero, List.set_cons_succ, List.set_cons_zero])
      (refine HoistK.yes (by rfl) (by kernel_rfl) ⟨?_, fun w' hSw => ?_, ?_⟩; rotate_left; (· go_simp; try with_reducible rfl); simp only [Act.put, List.setIfInBounds_toArray, List.getElem_toArray, List.getElem_cons_succ, List.getElem_cons_zero, List.set_cons_succ, List.set_cons_zero])
      (refine HoistK.yes (by rfl) (by kernel_rfl) ⟨?_, fun w' hSw => ?_, ?_⟩; rotate_left; (· obtain ⟨s0, s1, s2, s3, s4, s5, s6, s7, s8, s9⟩ := HF.out _ hSw; go_simp; try with_reducible rfl); simp only [Act.put, List.setIfInBounds_toArray, List.getElem_toArray, List.getElem_cons_succ, List.getElem_cons_zero, List.set_cons_succ, List.set_cons_zero])
      (refine HoistK.yes (by rfl) (by kernel_rfl) ⟨?_, fun w' hSw => ?_, ?_⟩; rotate_left; (· go_simp; try with_reducible rfl); simp only [Act.put, List.setIfInBounds_toArray, List.getElem_toArray, List.getElem_cons_succ, List.getElem_cons_zero, List.set_cons_succ, List.set_cons_zero])
      (refine HoistK.yes (by rfl) (by kernel_rfl) ⟨?_, fun w' hSw => ?_, ?_⟩; rotate_left; (· go_simp; try with_reducible rfl); simp only [Act.put, List.setIfInBounds_toArray, List.getElem_toArray, List.getElem_cons_succ, List.getElem_cons_zero, List.set_cons_succ, List.set_cons_zero])
      (refine HoistK.yes (by rfl) (by kernel_rfl) ⟨?_, fun w' hSw => ?_, ?_⟩; rotate_left; (· obtain ⟨s0, s1, s2, s3, s4, s5, s6, s7, s8, s9⟩ := HF.out _ hSw; go_simp; try with_reducible rfl); simp only [Act.put, List.setIfInBounds_toArray, List.getElem_toArray, List.getElem_cons_succ, List.getElem_cons_zero, List.set_cons_succ, List.set_cons_zero])
      (refine HoistK.yes (by rfl) (by kernel_rfl) ⟨?_, fun w' hSw => ?_, ?_⟩; rotate_left; (· go_simp; try with_reducible rfl); simp only [Act.put, List.setIfInBounds_toArray, List.getElem_toArray, List.getElem_cons_succ, List.getElem_cons_zero, List.set_cons_succ, List.set_cons_zero])
      (refine HoistK.yes (by rfl) (by kernel_rfl) ⟨?_, fun w' hSw => ?_, ?_⟩; rotate_left; (· go_simp; try with_reducible rfl); simp only [Act.put, List.setIfInBounds_toArray, List.getElem_toArray, List.getElem_cons_succ, List.getElem_cons_zero, List.set_cons_succ, List.set_cons_zero])
      (refine HoistK.yes (by rfl) (by kernel_rfl) ⟨?_, fun w' hSw => ?_, ?_⟩; rotate_left; (· go_simp; try with_reducible rfl); simp only [Act.put, List.setIfInBounds_toArray, List.getElem_toArray, List.getElem_cons_succ, List.getElem_cons_zero, List.set_cons_succ, List.set_cons_zero])
      (refine HoistK.yes (by rfl) (by kernel_rfl) ⟨?_, fun w' hSw => ?_, ?_⟩; rotate_left; (· go_simp; try with_reducible rfl); simp only [Act.put, List.setIfInBounds_toArray, List.getElem_toArray, List.getElem_cons_succ, List.getElem_cons_zero, List.set_cons_succ, List.set_cons_zero])
      (refine HoistK.yes (by rfl) (by kernel_rfl) ⟨?_, fun w' hSw => ?_, ?_⟩; rotate_left; (· obtain ⟨s0, s1, s2, s3, s4, s5, s6, s7, s8, s9⟩ := HF.out _ hSw; go_simp; try with_reducible rfl); simp only [Act.put, List.setIfInBounds_toArray, List.getElem_toArray, List.getElem_cons_succ, List.getElem_cons_zero, List.set_cons_succ, List.set_cons_zero])
      (refine HoistK.yes (by rfl) (by kernel_rfl) ⟨?_, fun w' hSw => ?_, ?_⟩; rotate_left; (· go_simp; try with_reducible rfl); simp only [Act.put, List.setIfInBounds_toArray, List.getElem_toArray, List.getElem_cons_succ, List.getElem_cons_zero, List.set_cons_succ, List.set_cons_zero])
      (refine HoistK.yes (by rfl) (by kernel_rfl) ⟨?_, fun w' hSw => ?_, ?_⟩; rotate_left; (· go_simp; try with_reducible rfl); simp only [Act.put, List.setIfInBounds_toArray, List.getElem_toArray, List.getElem_cons_succ, List.getElem_cons_zero, List.set_cons_succ, List.set_cons_zero])
      refine HoistK.nil_ ?_
      simp only [opsAt, List.filterMap_cons, List.filterMap_nil, List.getElem?_toArray, List.getElem?_cons_succ, List.getElem?_cons_zero]
      have g0 : Got w_9.drew w_9.drew [] [] := Got.start (Below.refl _ _)
      refine Effects.cons_ fun _ hQ1 => ?_
      go_wp2_with fail
      refine (rNumI_any _ _).mono ?_
      rintro e u1 ⟨v1, rfl, f1⟩
      have g1 := g0.step f1
      have hb1 := hb0.below f1.2 hb0.lt
      clear f1
      go_wp2_with fail
      refine hQ1 _ _ hb1 (Effects.cons_ fun _ hQ2 => ?_)
      clear hQ1 hb0 g0
      go_wp2_with fail
      refine (rNumU_any _ _ Q1.out).mono ?_
      rintro e u2 ⟨v2, rfl, f2⟩
      have g2 := g1.step f2
      have hb2 := hb1.below f2.2 hb1.lt
      clear f2
      go_wp2_with fail
      refine hQ2 _ _ hb2 (Effects.cons_ fun _ hQ3 => ?_)
      clear hQ2 hb1 g1
      go_wp2_with fail
      refine (rNumU_any _ _ Q2.out).mono ?_
      rintro e u3 ⟨v3, rfl, f3⟩
      have g3 := g2.step f3
      have hb3 := hb2.below f3.2 hb2.lt
      clear f3
      go_wp2_with fail
      refine hQ3 _ _ hb3 (Effects.cons_ fun _ hQ4 => ?_)
      clear hQ3 hb2 g2
      go_wp2_with fail
      refine (rNumU_any _ _ Q3.out).mono ?_
      rintro e u4 ⟨v4, rfl, f4⟩
      have g4 := g3.step f4
      have hb4 := hb3.below f4.2 hb3.lt
      clear f4
      go_wp2_with fail
      refine hQ4 _ _ hb4 (Effects.cons_ fun _ hQ5 => ?_)
      clear hQ4 hb3 g3
      go_wp2_with fail
      refine (rNumU_any _ _ Q4.out).mono ?_
      rintro e u5 ⟨v5, rfl, f5⟩
      have g5 := g4.step f5
      have hb5 := hb4.below f5.2 hb4.lt
      clear f5
      go_wp2_with fail
      refine hQ5 _ _ hb5 (Effects.cons_ fun _ hQ6 => ?_)
      clear hQ5 hb4 g4
      go_wp2_with fail
      refine (rNumI_any _ _).mono ?_
      rintro e u6 ⟨v6, rfl, f6⟩
      have g6 := g5.step f6
      have hb6 := hb5.below f6.2 hb5.lt
      clear f6
      go_wp2_with fail
      refine hQ6 _ _ hb6 (Effects.cons_ fun _ hQ7 => ?_)
      clear hQ6 hb5 g5
      go_wp2_with fail
      refine (rNumI_any _ _).mono ?_
      rintro e u7 ⟨v7, rfl, f7⟩
      have g7 := g6.step f7
      have hb7 := hb6.below f7.2 hb6.lt
      clear f7
      go_wp2_with fail
      refine hQ7 _ _ hb7 (Effects.cons_ fun _ hQ8 => ?_)
      clear hQ7 hb6 g6
      have g8 := g7.old D7.out
      clear g7
      go_wp2_with fail
      refine (rNumI_any _ _).mono ?_
      rintro e u8 ⟨v9, rfl, f8⟩
      have g9 := g8.step f8
      have hb8 := hb7.below f8.2 hb7.lt
      clear f8
      go_wp2_with fail
      refine hQ8 _ _ hb8 (Effects.cons_ fun _ hQ9 => ?_)
      clear hQ8 hb7 g8
      go_wp2_with fail
      refine (rJoin_any _ (V9.out.drew_.below g9.1) HEK9.out (fun b hb => Nat.lt_of_lt_of_le hb g9.1.size)).mono ?_
      rintro e u9 ⟨v10, rfl, f9⟩
      rw [HRm9.out] at f9
      have f9 : Fresh _ _ _ ((Sh.list tFact).enc x9) := f9
      have g10 := g9.step f9
      have hb9 := hb8.below f9.2 hb8.lt
      clear f9
      go_wp2_with fail
      refine hQ9 _ _ hb9 (Effects.nil_ fun _ hQ10 => ?_)
      clear hQ9 hb8 g9
      have hcs : ∀ v ∈ [v1, v2, v3, v4, v5, v6, v7, (.slice (some ⟨w.heap.size, 7, none⟩) 32 32), v9, v10], v.cells = #[v] := fun v hv => by
        obtain ⟨i, hi, rfl⟩ := List.getElem_of_mem hv
        obtain ⟨y, _, hr⟩ := g10.2.get i hi
        obtain ⟨A, c, e⟩ := hr.form
        have e' : [v1, v2, v3, v4, v5, v6, v7, (.slice (some ⟨w.heap.size, 7, none⟩) 32 32), v9, v10][i] = .slice A y.length c := e
        rw [e']; rfl
      refine wpList_rows rfl 10 _ rfl [v1, v2, v3, v4, v5, v6, v7, (.slice (some ⟨w.heap.size, 7, none⟩) 32 32), v9, v10] rfl (by decide) (by decide) hcs (by simp [Act.eval]) ?_
      have hr : Bsr (u9.alloc (.cells [v1, v2, v3, v4, v5, v6, v7, (.slice (some ⟨w.heap.size, 7, none⟩) 32 32), v9, v10].toArray 50)) (fun b => b < u9.heap.size + 1) (.slice (some ⟨u9.heap.size, 0, none⟩) 10 10) [numB x0, numB x1, numB x2, numB x3, numB x4, numB x5, numB x6, x7, numB x8, (Sh.list tFact).enc x9] := g10.row (by simp [maxLen]) 50
      have hj := rJoin_any _ hr (by have := HLL.out; omega) (fun b hb => by simpa using hb)
      have hbb : Below w.heap.size w (u9.alloc (.cells [v1, v2, v3, v4, v5, v6, v7, (.slice (some ⟨w.heap.size, 7, none⟩) 32 32), v9, v10].toArray 50)) := (hbw.trans (g10.1.mono hbw.size)).alloc (hbw.trans (g10.1.mono hbw.size)).size _
      have HJ := Lib.hid hj
      have HBB := Lib.hid hbb
      clear hj hbb hr g10 hcs
      go_wp2_with fail
      refine HJ.out.mono ?_
      rintro e uz ⟨vz, rfl, fz⟩
      go_wp2_with fail
      go_ret
      exact ⟨vz, rfl, fz.1.sub fun b hb _ => ⟨Nat.le_trans HBB.out.size hb.1, hb.2⟩, HBB.out.trans (fz.2.mono HBB.out.size)⟩

end Go.Proofs.YtjjgmkfkmckkoabGreatDoor

/- Codec: a signature's bytes. -/
namespace Go.Proofs.YtjjgmkfkmckkoabGreatDoor
open Go.RowKit Go.Maps
attribute [-simp] Tryz.isAgg24 Tryz.typeInfo24

set_option maxHeartbeats 4000000 in
set_option maxRecDepth 100000 in
theorem sig_any (w : World) {S : Nat → Prop} {x : tSig.El} {cs : List Value} (h : tSig.rep w S x cs) (hl : (tSig.enc x).length ≤ 1099511627776) :
    Calls Tryz.prog 53 #[.agg cs.toArray] w fun e w' => ∃ v', e = .returned v' ∧ Fresh w w' v' (tSig.enc x) := by
  obtain ⟨x0, x1, _⟩ := x
  obtain ⟨c0, _, rfl, ⟨rfl, _⟩, c1, _, rfl, ⟨rfl, l1⟩, rfl⟩ := h
  simp only [nk_t]
  obtain ⟨C, hC⟩ : ∃ C, C = [Value.int .i64 x0] ++ (u8s x1 ++ ([])) := ⟨_, rfl⟩
  rw [← hC]
  have hf : ∀ w', Blk w' w.heap.size 37 C.toArray → w'.cell? ⟨w.heap.size, 0, none⟩ = some (.int .i64 x0) ∧ w'.rangeAt w.heap.size 1 (u8s x1) := fun w' hb => by
    have := hb.lies [[Value.int .i64 x0], u8s x1] [] (by rw [hC]; simp)
    simp only [Lies, List.length_cons, List.length_nil] at this
    obtain ⟨s0, s1, _⟩ := this
    exact ⟨Lies.one s0, s1⟩
  have HF := Lib.hid hf
  clear hf hC
  have hrows : tSig.enc (x0, x1, ()) = joinB [numB x0, x1] := rfl
  have hl' : (joinB [numB x0, x1]).length ≤ 1099511627776 := hl
  have HLL := Lib.hid hl'
  clear hl hl'
  go_enter Tryz.func53, Tryz.ntmps53
  go_wp2_with fail
  have hsz : w.heap.size < w.heap.size + 1 := by omega
  refine wp_region_hoist [0, 1, 3, 4] [2, 5] [6, 7, 8] (fun w' => Blk w' w.heap.size 37 C.toArray)
    (by kernel_rfl) (by kernel_rfl) (by kernel_rfl) (by kernel_rfl) (by kernel_rfl) (by kernel_rfl) (Blk.new w _ _).drew ?_
  (refine HoistK.yes (by rfl) (by kernel_rfl) ⟨?_, fun w' hSw => ?_, ?_⟩; rotate_left; (· go_simp; try with_reducible rfl); simp only [Act.put, List.setIfInBounds_toArray, List.getElem_toArray, List.getElem_cons_zero, List.set_cons_succ, List.set_cons_zero])
  (refine HoistK.yes (by rfl) (by kernel_rfl) ⟨?_, fun w' hSw => ?_, ?_⟩; rotate_left; (· obtain ⟨s0, s1⟩ := HF.out _ hSw; go_simp; try with_reducible rfl); simp only [Act.put, List.setIfInBounds_toArray, List.getElem_toArray, List.getElem_cons_succ, List.getElem_cons_zero, List.set_cons_succ, List.set_cons_zero])
  (refine HoistK.yes (by rfl) (by kernel_rfl) ⟨?_, fun w' hSw => ?_, ?_⟩; rotate_left; (· go_simp; try with_reducible rfl); simp only [Act.put, List.setIfInBounds_toArray, List.getElem_toArray, List.getElem_cons_succ, List.getElem_cons_zero, List.set_cons_succ, List.set_cons_zero])
  (refine HoistK.load (by rfl) (by kernel_rfl) 24 _ rfl w.heap.size 1 rfl (u8s x1) _ (fun w' hw => (HF.out w' hw).2) Tryz.underlying24 rfl (by rw [u8s_length, l1]; kernel_rfl) ?_; simp only [Act.put, List.setIfInBounds_toArray, List.getElem_toArray, List.getElem_cons_succ, List.getElem_cons_zero, List.set_cons_succ, List.set_cons_zero])
  refine HoistK.nil_ ?_
  simp only [opsAt, List.filterMap_cons, List.filterMap_nil, List.getElem?_toArray, List.getElem?_cons_succ, List.getElem?_cons_zero]
  have hb0 : Blk (w.alloc (.cells C.toArray 37)).drew w.heap.size 37 C.toArray := (Blk.new w _ _).drew
  have g0 : Got w (w.alloc (.cells C.toArray 37)).drew [] [] := Got.start ((Below.refl _ w).alloc (Nat.le_refl _) _).drew
  refine Effects.cons_ fun _ hQ1 => ?_
  go_wp2_with fail
  refine (numInt64_any _ _).mono ?_
  rintro e w1 ⟨v1, rfl, f1⟩
  have g1 := g0.step f1
  have hb1 := hb0.below f1.2 hb0.lt
  clear f1
  go_wp2_with fail
  refine hQ1 _ _ hb1 (Effects.cons_ fun _ hQ2 => ?_)
  clear hQ1 hb0 g0
  go_wp2_with fail
  refine (digest_any _ _ l1).mono ?_
  rintro e w2 ⟨v2, rfl, f2⟩
  have g2 := g1.step f2
  have hb2 := hb1.below f2.2 hb1.lt
  clear f2
  go_wp2_with fail
  refine hQ2 _ _ hb2 (Effects.nil_ fun _ hQ3 => ?_)
  clear hQ2 hb1 g1
  have hcs : ∀ v ∈ [v1, v2], v.cells = #[v] := fun v hv => by
    obtain ⟨i, hi, rfl⟩ := List.getElem_of_mem hv
    obtain ⟨y, _, hr⟩ := g2.2.get i hi
    obtain ⟨A, c, e⟩ := hr.form
    have e' : [v1, v2][i] = .slice A y.length c := e
    rw [e']; rfl
  refine wpList_rows rfl 2 _ rfl [v1, v2] rfl (by decide) (by decide) hcs (by simp [Act.eval]) ?_
  have hr : Bsr (w2.alloc (.cells [v1, v2].toArray 50)) (fun b => b < w2.heap.size + 1) (.slice (some ⟨w2.heap.size, 0, none⟩) 2 2) [numB x0, x1] := g2.row (by simp [maxLen]) 50
  have hj := join_any _ hr (by have := HLL.out; omega) (fun b hb => by simpa using hb)
  have hbb : Below w.heap.size w (w2.alloc (.cells [v1, v2].toArray 50)) := g2.1.alloc g2.1.size _
  have HJ := Lib.hid hj
  have HBB := Lib.hid hbb
  clear hj hbb hr g2 hcs
  go_wp2_with fail
  refine HJ.out.mono ?_
  rintro e w3 ⟨v3, rfl, f3⟩
  go_wp2_with fail
  go_ret
  exact ⟨v3, rfl, f3.1.sub fun b hb _ => ⟨Nat.le_trans HBB.out.size hb.1, hb.2⟩, HBB.out.trans (f3.2.mono HBB.out.size)⟩

end Go.Proofs.YtjjgmkfkmckkoabGreatDoor

/- Codec: list[Sig]. -/
namespace Go.Proofs.YtjjgmkfkmckkoabGreatDoor
open Go.RowKit Go.Maps
attribute [-simp] Tryz.isAgg24 Tryz.typeInfo24 Tryz.isAgg37 Tryz.typeInfo37

set_option maxHeartbeats 2000000 in
set_option maxRecDepth 100000 in
theorem listSig_any (w : World) {S : Nat → Prop} {v : Value} {l : List (tSig).El} (h : (Sh.list tSig).rep w S l [v]) (hl : ((Sh.list tSig).enc l).length ≤ 1099511627776) :
    Calls Tryz.prog 88 #[v, .func (Fn.func 53) #[] #[]] w fun e w' => ∃ v', e = .returned v' ∧ Fresh w w' v' ((Sh.list tSig).enc l) := by
  obtain ⟨A, cap, rfl, hlen, hat⟩ := list_at h
  have H := Lib.hid h; clear h
  have hl' : (joinB (l.map (tSig).enc)).length ≤ 1099511627776 := hl
  have hcnt := joinP_count (l.map (tSig).enc)
  rw [joinB_length] at hl'
  rw [List.length_map] at hcnt
  have HLL := Lib.hid hl
  clear hl hat
  go_enter Tryz.func88, Tryz.ntmps88
  go_wp2_with fail
  go_loopw [5, 10] (fun a i wr => ∃ k : Nat, k ≤ l.length ∧ i = .int .i64 k ∧ Bss wr (fun b => w.heap.size ≤ b) (fun b => w.heap.size ≤ b) a ((l.take k).map (tSig).enc) ∧ Below w.heap.size w wr) (fun _ i _ => l.length - (intOf i).toNat)
  case atStart => exact ⟨0, Nat.zero_le _, rfl, Bss.nil_ _ _ _, Below.refl _ _⟩
  case round =>
    obtain ⟨k, hk, rfl, hB, hbl⟩ := hrel
    by_cases hlt : k < l.length
    · obtain ⟨R, hR⟩ : ∃ R, R = (l.take k).map (tSig).enc := ⟨_, rfl⟩
      rw [← hR] at hB
      have hRl : R.length = k := by rw [hR, List.length_map, List.length_take]; omega
      have hnext : (l.take (k + 1)).map (tSig).enc = R ++ [(tSig).enc l[k]] := by rw [List.take_succ_eq_append_getElem hlt, List.map_append, ← hR]; rfl
      obtain ⟨Aa, ca, rfl⟩ := hB.form
      obtain ⟨_, _, e, _, hat⟩ := list_at (Sh.rep_below H.out hbl)
      injection e with e1 e2 e3
      subst e1 e3
      obtain ⟨b, off, c, rfl, hca, hr, hcl, _, _⟩ := hat k hlt
      obtain ⟨x, hx⟩ : ∃ x, x = l[k] := ⟨_, rfl⟩
      rw [← hx] at hr hnext
      have hsm2 : ((tSig).enc x).length ≤ 1099511627776 := by
        have h1 := joinP_mem (List.mem_map.2 ⟨l[k], List.getElem_mem hlt, rfl⟩ : (tSig).enc l[k] ∈ l.map (tSig).enc)
        rw [hx]; omega
      have hinfo : (Tryz.prog.info? 37).map (·.size) = some c.length := by rw [hcl]; kernel_rfl
      have HC1 := Lib.hid (Sh.rep_one _ _ _ hr)
      have HCA := Lib.hid (show wr.rangeAt b (off + k * 33) c from hca)
      have HI := Lib.hid hinfo
      have HCL := Lib.hid hcl
      have HREP := Lib.hid hr
      have HSM := Lib.hid hsm2
      clear hinfo hr hsm2
      have hown : ∀ k, (Value.slice Aa R.length ca).ownBlock = some k → k < wr.heap.size := fun k hk => by obtain ⟨vs, ho, _⟩ := hB; exact own_lt ho hk
      have HB := Lib.hid hB
      have HN := Lib.hid hnext
      have HRL := Lib.hid hRl
      have HOWN := Lib.hid hown
      clear hB hca hcl hat hx hR hnext hRl hown
      go_wp2_with (first | (refine wpList_load_mid rfl 37 _ rfl b (off + k * 33) rfl c _ HCA.out Tryz.underlying37 rfl HI.out ?_) | (refine wpList_store_blk (cs0 := .int .i64 0 :: List.replicate 32 (.int .u8 0)) (cs := c) rfl 37 _ _ rfl (Blk.new wr _ _) rfl rfl (by rw [HCL.out]; rfl) HI.out HC1.out ?_; intro w4 hb4 hc4; have HB4 := Lib.hid hb4; have HC4 := Lib.hid hc4; clear hb4 hc4) | (refine wpList_load_blk' rfl 37 _ rfl HB4.out rfl Tryz.underlying37 rfl HI.out ?_))
      have hbw4 : Below wr.heap.size wr w4 := ((Below.refl _ wr).alloc (Nat.le_refl _) _).trans (HC4.out.below (by simp) fun b hb => Nat.le_of_eq hb.symm)
      have hr := Sh.rep_below HREP.out hbw4
      refine (sig_any _ hr HSM.out).mono ?_
      rintro e w1 ⟨v1, rfl, f4⟩
      have f1 : Fresh wr w1 v1 _ := ⟨f4.1.sub fun b hb _ => ⟨Nat.le_trans hbw4.size hb.1, hb.2⟩, hbw4.trans (f4.2.mono hbw4.size)⟩
      clear f4 hr
      have hb1 := hbl.trans (f1.2.mono hbl.size)
      obtain ⟨y, hy⟩ : ∃ y, y = (tSig).enc x := ⟨_, rfl⟩
      have f1 : Fresh wr w1 v1 y := hy ▸ f1
      rw [← hy] at HN
      obtain ⟨A1, c1, rfl⟩ := f1.1.form
      obtain ⟨vs, ho, hS, hr⟩ := HB.out.below f1.2
      have hsz1 := f1.2.size
      have hal : Below w1.heap.size w1 (w1.alloc (.cells #[.slice A1 y.length c1] 50)) := (Below.refl _ w1).alloc (Nat.le_refl _) _
      have HAL := Lib.hid hal
      have HO := Lib.hid (show Own (w1.alloc (.cells #[.slice A1 y.length c1] 50)) _ _ _ _ _ from own_keep ho fun k hk => hal.block k (own_lt ho hk))
      have HS := Lib.hid hS
      have HR := Lib.hid (fun i x u h1 h2 => (hr i x u h1 h2).below hal)
      have HU := Lib.hid ((f1.1.1.below hal).sub (T := fun b => w.heap.size ≤ b ∧ (Value.slice Aa R.length ca).ownBlock ≠ some b) fun b hb _ => ⟨Nat.le_trans hbl.size hb.1, fun e => by have := HOWN.out b e; omega⟩)
      have HS2 := Lib.hid (Cs.of_new w1 50 (size := 1) 1 (cs := [.slice A1 y.length c1]) rfl (by simp only [maxLen]; decide))
      have H63 := Lib.hid (show R.length + 1 ≤ maxLen ∧ (R.length + 1) * 24 ≤ 140737488355328 from by have := HRL.out; refine ⟨by simp only [maxLen]; omega, by omega⟩)
      clear ho hS hr hal f1 hy
      go_wp2_with (at_builtin; refine wpList_app _ rfl _ _ _ rfl Tryz.underlying103 info_row rfl (by decide) HO.out rfl HS2.out rfl (by simp [Value.oneCell']) H63.out.1 H63.out.2 ?_; intro v3 w3 ho3 hg3 hnil3 hat3; clear hnil3; have HO3 := Lib.hid ho3; clear ho3; have HG3 := Lib.hid hg3; clear hg3; have HAT3 := Lib.hid hat3; clear hat3)
      have hpush := Bss.push HO.out HS.out HR.out HU.out HO3.out HG3.out HAT3.out (by have := hb1.size; have := HAL.out.size; omega)
      rw [← HN.out] at hpush
      refine ⟨⟨k + 1, by omega, by push_cast; rfl, hpush, (hb1.trans (HAL.out.mono hb1.size)).trans (HG3.out.below (Nat.le_trans hb1.size HAL.out.size) fun b h => HS.out b h)⟩, ?_⟩
      simp only [intOf]
      omega
    · have hk' : k = l.length := by omega
      rw [hk', List.take_length] at hB
      have hsm : ∀ x ∈ l.map (tSig).enc, x.length ≤ 140737488355328 := fun x hx => by have := joinP_mem hx; omega
      have hj := join_any _ ((hB.read hsm).lt_ (T := fun b => w.heap.size ≤ b) fun b h => h.elim id id) (by rw [joinB_length]; omega) fun b h => h.2
      have HJ := Lib.hid hj
      obtain ⟨R, hR⟩ : ∃ R, R = l.map (tSig).enc := ⟨_, rfl⟩
      have HR := Lib.hid hR
      rw [← hR] at hB HJ
      obtain ⟨Aa, ca, rfl⟩ := hB.form
      clear hj hB hR hsm
      go_wp2_with fail
      refine HJ.out.mono ?_
      rintro e w1 ⟨v1, rfl, f1⟩
      go_wp2_with fail
      go_ret
      refine ⟨v1, rfl, ?_, hbl.trans (f1.2.mono hbl.size)⟩
      have := f1.1.sub (T := fun b => w.heap.size ≤ b ∧ Th w1 b) fun b hb _ => ⟨Nat.le_trans hbl.size hb.1, hb.2⟩
      rw [HR.out] at this
      exact this

end Go.Proofs.YtjjgmkfkmckkoabGreatDoor

/- Codec: a certificate's bytes. -/
namespace Go.Proofs.YtjjgmkfkmckkoabGreatDoor
open Go.RowKit Go.Maps
attribute [-simp] Tryz.isAgg24 Tryz.typeInfo24

set_option maxHeartbeats 4000000 in
set_option maxRecDepth 100000 in
theorem qc_any (w : World) {S : Nat → Prop} {x : tQC.El} {cs : List Value} (h : tQC.rep w S x cs) (hl : (tQC.enc x).length ≤ 1099511627776) :
    Calls Tryz.prog 52 #[.agg cs.toArray] w fun e w' => ∃ v', e = .returned v' ∧ Fresh w w' v' (tQC.enc x) := by
  obtain ⟨x0, x1, x2, x3, x4, x5, _⟩ := x
  obtain ⟨c0, _, rfl, ⟨rfl, _⟩, c1, _, rfl, ⟨rfl, _⟩, c2, _, rfl, ⟨rfl, _⟩, c3, _, rfl, ⟨rfl, l3⟩, c4, _, rfl, r4, c5, _, rfl, r5, rfl⟩ := h
  obtain ⟨y4, rfl⟩ : ∃ y, c4 = [y] := by obtain ⟨v, _, e, _⟩ := r4; exact ⟨v, e⟩
  obtain ⟨y5, rfl⟩ : ∃ y, c5 = [y] := by obtain ⟨v, _, e, _⟩ := r5; exact ⟨v, e⟩
  have R4 := Lib.hid r4; clear r4
  have R5 := Lib.hid r5; clear r5
  simp only [nk_t]
  obtain ⟨C, hC⟩ : ∃ C, C = [Value.int .i64 x0] ++ ([Value.int .i64 x1] ++ ([Value.int .i64 x2] ++ (u8s x3 ++ ([y4] ++ ([y5] ++ ([])))))) := ⟨_, rfl⟩
  rw [← hC]
  have hf : ∀ w', Blk w' w.heap.size 33 C.toArray → w'.cell? ⟨w.heap.size, 0, none⟩ = some (.int .i64 x0) ∧ w'.cell? ⟨w.heap.size, 1, none⟩ = some (.int .i64 x1) ∧ w'.cell? ⟨w.heap.size, 2, none⟩ = some (.int .i64 x2) ∧ w'.rangeAt w.heap.size 3 (u8s x3) ∧ w'.cell? ⟨w.heap.size, 35, none⟩ = some y4 ∧ w'.cell? ⟨w.heap.size, 36, none⟩ = some y5 := fun w' hb => by
    have := hb.lies [[Value.int .i64 x0], [Value.int .i64 x1], [Value.int .i64 x2], u8s x3, [y4], [y5]] [] (by rw [hC]; simp)
    simp only [Lies, u8s_length, l3, List.length_cons, List.length_nil] at this
    obtain ⟨s0, s1, s2, s3, s4, s5, _⟩ := this
    exact ⟨Lies.one s0, Lies.one s1, Lies.one s2, s3, Lies.one s4, Lies.one s5⟩
  have HF := Lib.hid hf
  clear hf hC
  have hrows : tQC.enc (x0, x1, x2, x3, x4, x5, ()) = joinB [numB x0, numB x1, numB x2, x3, (Sh.list i64).enc x4, (Sh.list tSig).enc x5] := rfl
  have hl' : (joinB [numB x0, numB x1, numB x2, x3, (Sh.list i64).enc x4, (Sh.list tSig).enc x5]).length ≤ 1099511627776 := hl
  have HLL := Lib.hid hl'
  clear hl hl'
  go_enter Tryz.func52, Tryz.ntmps52
  go_wp2_with fail
  have hsz : w.heap.size < w.heap.size + 1 := by omega
  refine wp_region_hoist [0, 1, 3, 4, 6, 7, 9, 10, 12, 13, 15, 16] [2, 5, 8, 11, 14, 17] [18, 19, 20] (fun w' => Blk w' w.heap.size 33 C.toArray)
    (by kernel_rfl) (by kernel_rfl) (by kernel_rfl) (by kernel_rfl) (by kernel_rfl) (by kernel_rfl) (Blk.new w _ _).drew ?_
  (refine HoistK.yes (by rfl) (by kernel_rfl) ⟨?_, fun w' hSw => ?_, ?_⟩; rotate_left; (· go_simp; try with_reducible rfl); simp only [Act.put, List.setIfInBounds_toArray, List.getElem_toArray, List.getElem_cons_zero, List.set_cons_succ, List.set_cons_zero])
  (refine HoistK.yes (by rfl) (by kernel_rfl) ⟨?_, fun w' hSw => ?_, ?_⟩; rotate_left; (· obtain ⟨s0, s1, s2, s3, s4, s5⟩ := HF.out _ hSw; go_simp; try with_reducible rfl); simp only [Act.put, List.setIfInBounds_toArray, List.getElem_toArray, List.getElem_cons_succ, List.getElem_cons_zero, List.set_cons_succ, List.set_cons_zero])
  (refine HoistK.yes (by rfl) (by kernel_rfl) ⟨?_, fun w' hSw => ?_, ?_⟩; rotate_left; (· go_simp; try with_reducible rfl); simp only [Act.put, List.setIfInBounds_toArray, List.getElem_toArray, List.getElem_cons_succ, List.getElem_cons_zero, List.set_cons_succ, List.set_cons_zero])
  (refine HoistK.yes (by rfl) (by kernel_rfl) ⟨?_, fun w' hSw => ?_, ?_⟩; rotate_left; (· obtain ⟨s0, s1, s2, s3, s4, s5⟩ := HF.out _ hSw; go_simp; try with_reducible rfl); simp only [Act.put, List.setIfInBounds_toArray, List.getElem_toArray, List.getElem_cons_succ, List.getElem_cons_zero, List.set_cons_succ, List.set_cons_zero])
  (refine HoistK.yes (by rfl) (by kernel_rfl) ⟨?_, fun w' hSw => ?_, ?_⟩; rotate_left; (· go_simp; try with_reducible rfl); simp only [Act.put, List.setIfInBounds_toArray, List.getElem_toArray, List.getElem_cons_succ, List.getElem_cons_zero, List.set_cons_succ, List.set_cons_zero])
  (refine HoistK.yes (by rfl) (by kernel_rfl) ⟨?_, fun w' hSw => ?_, ?_⟩; rotate_left; (· obtain ⟨s0, s1, s2, s3, s4, s5⟩ := HF.out _ hSw; go_simp; try with_reducible rfl); simp only [Act.put, List.setIfInBounds_toArray, List.getElem_toArray, List.getElem_cons_succ, List.getElem_cons_zero, List.set_cons_succ, List.set_cons_zero])
  (refine HoistK.yes (by rfl) (by kernel_rfl) ⟨?_, fun w' hSw => ?_, ?_⟩; rotate_left; (· go_simp; try with_reducible rfl); simp only [Act.put, List.setIfInBounds_toArray, List.getElem_toArray, List.getElem_cons_succ, List.getElem_cons_zero, List.set_cons_succ, List.set_cons_zero])
  (refine HoistK.load (by rfl) (by kernel_rfl) 24 _ rfl w.heap.size 3 rfl (u8s x3) _ (fun w' hw => (HF.out w' hw).2.2.2.1) Tryz.underlying24 rfl (by rw [u8s_length, l3]; kernel_rfl) ?_; simp only [Act.put, List.setIfInBounds_toArray, List.getElem_toArray, List.getElem_cons_succ, List.getElem_cons_zero, List.set_cons_succ, List.set_cons_zero])
  (refine HoistK.yes (by rfl) (by kernel_rfl) ⟨?_, fun w' hSw => ?_, ?_⟩; rotate_left; (· go_simp; try with_reducible rfl); simp only [Act.put, List.setIfInBounds_toArray, List.getElem_toArray, List.getElem_cons_succ, List.getElem_cons_zero, List.set_cons_succ, List.set_cons_zero])
  (refine HoistK.yes (by rfl) (by kernel_rfl) ⟨?_, fun w' hSw => ?_, ?_⟩; rotate_left; (· obtain ⟨s0, s1, s2, s3, s4, s5⟩ := HF.out _ hSw; go_simp; try with_reducible rfl); simp only [Act.put, List.setIfInBounds_toArray, List.getElem_toArray, List.getElem_cons_succ, List.getElem_cons_zero, List.set_cons_succ, List.set_cons_zero])
  (refine HoistK.yes (by rfl) (by kernel_rfl) ⟨?_, fun w' hSw => ?_, ?_⟩; rotate_left; (· go_simp; try with_reducible rfl); simp only [Act.put, List.setIfInBounds_toArray, List.getElem_toArray, List.getElem_cons_succ, List.getElem_cons_zero, List.set_cons_succ, List.set_cons_zero])
  (refine HoistK.yes (by rfl) (by kernel_rfl) ⟨?_, fun w' hSw => ?_, ?_⟩; rotate_left; (· obtain ⟨s0, s1, s2, s3, s4, s5⟩ := HF.out _ hSw; go_simp; try with_reducible rfl); simp only [Act.put, List.setIfInBounds_toArray, List.getElem_toArray, List.getElem_cons_succ, List.getElem_cons_zero, List.set_cons_succ, List.set_cons_zero])
  refine HoistK.nil_ ?_
  simp only [opsAt, List.filterMap_cons, List.filterMap_nil, List.getElem?_toArray, List.getElem?_cons_succ, List.getElem?_cons_zero]
  have hb0 : Blk (w.alloc (.cells C.toArray 33)).drew w.heap.size 33 C.toArray := (Blk.new w _ _).drew
  have g0 : Got w (w.alloc (.cells C.toArray 33)).drew [] [] := Got.start ((Below.refl _ w).alloc (Nat.le_refl _) _).drew
  refine Effects.cons_ fun _ hQ1 => ?_
  go_wp2_with fail
  refine (numInt_any _ _).mono ?_
  rintro e w1 ⟨v1, rfl, f1⟩
  have g1 := g0.step f1
  have hb1 := hb0.below f1.2 hb0.lt
  clear f1
  go_wp2_with fail
  refine hQ1 _ _ hb1 (Effects.cons_ fun _ hQ2 => ?_)
  clear hQ1 hb0 g0
  go_wp2_with fail
  refine (numInt_any _ _).mono ?_
  rintro e w2 ⟨v2, rfl, f2⟩
  have g2 := g1.step f2
  have hb2 := hb1.below f2.2 hb1.lt
  clear f2
  go_wp2_with fail
  refine hQ2 _ _ hb2 (Effects.cons_ fun _ hQ3 => ?_)
  clear hQ2 hb1 g1
  go_wp2_with fail
  refine (numInt64_any _ _).mono ?_
  rintro e w3 ⟨v3, rfl, f3⟩
  have g3 := g2.step f3
  have hb3 := hb2.below f3.2 hb2.lt
  clear f3
  go_wp2_with fail
  refine hQ3 _ _ hb3 (Effects.cons_ fun _ hQ4 => ?_)
  clear hQ3 hb2 g2
  go_wp2_with fail
  refine (digest_any _ _ l3).mono ?_
  rintro e w4 ⟨v4, rfl, f4⟩
  have g4 := g3.step f4
  have hb4 := hb3.below f4.2 hb3.lt
  clear f4
  go_wp2_with fail
  refine hQ4 _ _ hb4 (Effects.cons_ fun _ hQ5 => ?_)
  clear hQ4 hb3 g3
  go_wp2_with fail
  refine (nums_any _ (Sh.rep_below R4.out g4.1) (by have h1 := HLL.out; rw [joinB_length] at h1; have h2 := joinP_mem (l := [numB x0, numB x1, numB x2, x3, (Sh.list i64).enc x4, (Sh.list tSig).enc x5]) (x := (Sh.list i64).enc x4) (by simp); omega)).mono ?_
  rintro e w5 ⟨v5, rfl, f5⟩
  have g5 := g4.step f5
  have hb5 := hb4.below f5.2 hb4.lt
  clear f5
  go_wp2_with fail
  refine hQ5 _ _ hb5 (Effects.cons_ fun _ hQ6 => ?_)
  clear hQ5 hb4 g4
  go_wp2_with fail
  refine (listSig_any _ (Sh.rep_below R5.out g5.1) (by have h1 := HLL.out; rw [joinB_length] at h1; have h2 := joinP_mem (l := [numB x0, numB x1, numB x2, x3, (Sh.list i64).enc x4, (Sh.list tSig).enc x5]) (x := (Sh.list tSig).enc x5) (by simp); omega)).mono ?_
  rintro e w6 ⟨v6, rfl, f6⟩
  have g6 := g5.step f6
  have hb6 := hb5.below f6.2 hb5.lt
  clear f6
  go_wp2_with fail
  refine hQ6 _ _ hb6 (Effects.nil_ fun _ hQ7 => ?_)
  clear hQ6 hb5 g5
  have hcs : ∀ v ∈ [v1, v2, v3, v4, v5, v6], v.cells = #[v] := fun v hv => by
    obtain ⟨i, hi, rfl⟩ := List.getElem_of_mem hv
    obtain ⟨y, _, hr⟩ := g6.2.get i hi
    obtain ⟨A, c, e⟩ := hr.form
    have e' : [v1, v2, v3, v4, v5, v6][i] = .slice A y.length c := e
    rw [e']; rfl
  refine wpList_rows rfl 6 _ rfl [v1, v2, v3, v4, v5, v6] rfl (by decide) (by decide) hcs (by simp [Act.eval]) ?_
  have hr : Bsr (w6.alloc (.cells [v1, v2, v3, v4, v5, v6].toArray 50)) (fun b => b < w6.heap.size + 1) (.slice (some ⟨w6.heap.size, 0, none⟩) 6 6) [numB x0, numB x1, numB x2, x3, (Sh.list i64).enc x4, (Sh.list tSig).enc x5] := g6.row (by simp [maxLen]) 50
  have hj := join_any _ hr (by have := HLL.out; omega) (fun b hb => by simpa using hb)
  have hbb : Below w.heap.size w (w6.alloc (.cells [v1, v2, v3, v4, v5, v6].toArray 50)) := g6.1.alloc g6.1.size _
  have HJ := Lib.hid hj
  have HBB := Lib.hid hbb
  clear hj hbb hr g6 hcs
  go_wp2_with fail
  refine HJ.out.mono ?_
  rintro e w7 ⟨v7, rfl, f7⟩
  go_wp2_with fail
  go_ret
  exact ⟨v7, rfl, f7.1.sub fun b hb _ => ⟨Nat.le_trans HBB.out.size hb.1, hb.2⟩, HBB.out.trans (f7.2.mono HBB.out.size)⟩

end Go.Proofs.YtjjgmkfkmckkoabGreatDoor

/- Codec: list[Header]. -/
namespace Go.Proofs.YtjjgmkfkmckkoabGreatDoor
open Go.RowKit Go.Maps
attribute [-simp] Tryz.isAgg24 Tryz.typeInfo24 Tryz.isAgg29 Tryz.typeInfo29

set_option maxHeartbeats 2000000 in
set_option maxRecDepth 100000 in
theorem listHeader_any (w : World) {S : Nat → Prop} {v : Value} {l : List (tHeader).El} (h : (Sh.list tHeader).rep w S l [v]) (hl : ((Sh.list tHeader).enc l).length ≤ 1099511627776) :
    Calls Tryz.prog 79 #[v, .func (Fn.func 51) #[] #[]] w fun e w' => ∃ v', e = .returned v' ∧ Fresh w w' v' ((Sh.list tHeader).enc l) := by
  obtain ⟨A, cap, rfl, hlen, hat⟩ := list_at h
  have H := Lib.hid h; clear h
  have hl' : (joinB (l.map (tHeader).enc)).length ≤ 1099511627776 := hl
  have hcnt := joinP_count (l.map (tHeader).enc)
  rw [joinB_length] at hl'
  rw [List.length_map] at hcnt
  have HLL := Lib.hid hl
  clear hl hat
  go_enter Tryz.func79, Tryz.ntmps79
  go_wp2_with fail
  go_loopw [5, 10] (fun a i wr => ∃ k : Nat, k ≤ l.length ∧ i = .int .i64 k ∧ Bss wr (fun b => w.heap.size ≤ b) (fun b => w.heap.size ≤ b) a ((l.take k).map (tHeader).enc) ∧ Below w.heap.size w wr) (fun _ i _ => l.length - (intOf i).toNat)
  case atStart => exact ⟨0, Nat.zero_le _, rfl, Bss.nil_ _ _ _, Below.refl _ _⟩
  case round =>
    obtain ⟨k, hk, rfl, hB, hbl⟩ := hrel
    by_cases hlt : k < l.length
    · obtain ⟨R, hR⟩ : ∃ R, R = (l.take k).map (tHeader).enc := ⟨_, rfl⟩
      rw [← hR] at hB
      have hRl : R.length = k := by rw [hR, List.length_map, List.length_take]; omega
      have hnext : (l.take (k + 1)).map (tHeader).enc = R ++ [(tHeader).enc l[k]] := by rw [List.take_succ_eq_append_getElem hlt, List.map_append, ← hR]; rfl
      obtain ⟨Aa, ca, rfl⟩ := hB.form
      obtain ⟨_, _, e, _, hat⟩ := list_at (Sh.rep_below H.out hbl)
      injection e with e1 e2 e3
      subst e1 e3
      obtain ⟨b, off, c, rfl, hca, hr, hcl, _, _⟩ := hat k hlt
      obtain ⟨x, hx⟩ : ∃ x, x = l[k] := ⟨_, rfl⟩
      rw [← hx] at hr hnext
      have hsm2 : ((tHeader).enc x).length ≤ 1099511627776 := by
        have h1 := joinP_mem (List.mem_map.2 ⟨l[k], List.getElem_mem hlt, rfl⟩ : (tHeader).enc l[k] ∈ l.map (tHeader).enc)
        rw [hx]; omega
      have hinfo : (Tryz.prog.info? 29).map (·.size) = some c.length := by rw [hcl]; kernel_rfl
      have HC1 := Lib.hid (Sh.rep_one _ _ _ hr)
      have HCA := Lib.hid (show wr.rangeAt b (off + k * 101) c from hca)
      have HI := Lib.hid hinfo
      have HCL := Lib.hid hcl
      have HREP := Lib.hid hr
      have HSM := Lib.hid hsm2
      clear hinfo hr hsm2
      have hown : ∀ k, (Value.slice Aa R.length ca).ownBlock = some k → k < wr.heap.size := fun k hk => by obtain ⟨vs, ho, _⟩ := hB; exact own_lt ho hk
      have HB := Lib.hid hB
      have HN := Lib.hid hnext
      have HRL := Lib.hid hRl
      have HOWN := Lib.hid hown
      clear hB hca hcl hat hx hR hnext hRl hown
      go_wp2_with (first | (refine wpList_load_mid rfl 29 _ rfl b (off + k * 101) rfl c _ HCA.out Tryz.underlying29 rfl HI.out ?_) | (refine wpList_store_blk (cs0 := [.int .i64 0, .int .i64 0, .int .i64 0, .int .i64 0] ++ List.replicate 96 (.int .u8 0) ++ [.int .i64 0]) (cs := c) rfl 29 _ _ rfl (Blk.new wr _ _) rfl rfl (by rw [HCL.out]; rfl) HI.out HC1.out ?_; intro w4 hb4 hc4; have HB4 := Lib.hid hb4; have HC4 := Lib.hid hc4; clear hb4 hc4) | (refine wpList_load_blk' rfl 29 _ rfl HB4.out rfl Tryz.underlying29 rfl HI.out ?_))
      have hbw4 : Below wr.heap.size wr w4 := ((Below.refl _ wr).alloc (Nat.le_refl _) _).trans (HC4.out.below (by simp) fun b hb => Nat.le_of_eq hb.symm)
      have hr := Sh.rep_below HREP.out hbw4
      refine (header_any _ hr).mono ?_
      rintro e w1 ⟨v1, rfl, f4⟩
      have f1 : Fresh wr w1 v1 _ := ⟨f4.1.sub fun b hb _ => ⟨Nat.le_trans hbw4.size hb.1, hb.2⟩, hbw4.trans (f4.2.mono hbw4.size)⟩
      clear f4 hr
      have hb1 := hbl.trans (f1.2.mono hbl.size)
      obtain ⟨y, hy⟩ : ∃ y, y = (tHeader).enc x := ⟨_, rfl⟩
      have f1 : Fresh wr w1 v1 y := hy ▸ f1
      rw [← hy] at HN
      obtain ⟨A1, c1, rfl⟩ := f1.1.form
      obtain ⟨vs, ho, hS, hr⟩ := HB.out.below f1.2
      have hsz1 := f1.2.size
      have hal : Below w1.heap.size w1 (w1.alloc (.cells #[.slice A1 y.length c1] 50)) := (Below.refl _ w1).alloc (Nat.le_refl _) _
      have HAL := Lib.hid hal
      have HO := Lib.hid (show Own (w1.alloc (.cells #[.slice A1 y.length c1] 50)) _ _ _ _ _ from own_keep ho fun k hk => hal.block k (own_lt ho hk))
      have HS := Lib.hid hS
      have HR := Lib.hid (fun i x u h1 h2 => (hr i x u h1 h2).below hal)
      have HU := Lib.hid ((f1.1.1.below hal).sub (T := fun b => w.heap.size ≤ b ∧ (Value.slice Aa R.length ca).ownBlock ≠ some b) fun b hb _ => ⟨Nat.le_trans hbl.size hb.1, fun e => by have := HOWN.out b e; omega⟩)
      have HS2 := Lib.hid (Cs.of_new w1 50 (size := 1) 1 (cs := [.slice A1 y.length c1]) rfl (by simp only [maxLen]; decide))
      have H63 := Lib.hid (show R.length + 1 ≤ maxLen ∧ (R.length + 1) * 24 ≤ 140737488355328 from by have := HRL.out; refine ⟨by simp only [maxLen]; omega, by omega⟩)
      clear ho hS hr hal f1 hy
      go_wp2_with (at_builtin; refine wpList_app _ rfl _ _ _ rfl Tryz.underlying103 info_row rfl (by decide) HO.out rfl HS2.out rfl (by simp [Value.oneCell']) H63.out.1 H63.out.2 ?_; intro v3 w3 ho3 hg3 hnil3 hat3; clear hnil3; have HO3 := Lib.hid ho3; clear ho3; have HG3 := Lib.hid hg3; clear hg3; have HAT3 := Lib.hid hat3; clear hat3)
      have hpush := Bss.push HO.out HS.out HR.out HU.out HO3.out HG3.out HAT3.out (by have := hb1.size; have := HAL.out.size; omega)
      rw [← HN.out] at hpush
      refine ⟨⟨k + 1, by omega, by push_cast; rfl, hpush, (hb1.trans (HAL.out.mono hb1.size)).trans (HG3.out.below (Nat.le_trans hb1.size HAL.out.size) fun b h => HS.out b h)⟩, ?_⟩
      simp only [intOf]
      omega
    · have hk' : k = l.length := by omega
      rw [hk', List.take_length] at hB
      have hsm : ∀ x ∈ l.map (tHeader).enc, x.length ≤ 140737488355328 := fun x hx => by have := joinP_mem hx; omega
      have hj := join_any _ ((hB.read hsm).lt_ (T := fun b => w.heap.size ≤ b) fun b h => h.elim id id) (by rw [joinB_length]; omega) fun b h => h.2
      have HJ := Lib.hid hj
      obtain ⟨R, hR⟩ : ∃ R, R = l.map (tHeader).enc := ⟨_, rfl⟩
      have HR := Lib.hid hR
      rw [← hR] at hB HJ
      obtain ⟨Aa, ca, rfl⟩ := hB.form
      clear hj hB hR hsm
      go_wp2_with fail
      refine HJ.out.mono ?_
      rintro e w1 ⟨v1, rfl, f1⟩
      go_wp2_with fail
      go_ret
      refine ⟨v1, rfl, ?_, hbl.trans (f1.2.mono hbl.size)⟩
      have := f1.1.sub (T := fun b => w.heap.size ≤ b ∧ Th w1 b) fun b hb _ => ⟨Nat.le_trans hbl.size hb.1, hb.2⟩
      rw [HR.out] at this
      exact this

end Go.Proofs.YtjjgmkfkmckkoabGreatDoor

/- Codec: a commit. -/
namespace Go.Proofs.YtjjgmkfkmckkoabGreatDoor
open Go.RowKit Go.Maps
attribute [-simp] Tryz.isAgg24 Tryz.typeInfo24 Tryz.isAgg33 Tryz.typeInfo33

set_option maxHeartbeats 4000000 in
set_option maxRecDepth 100000 in
theorem commit_any (w : World) {S : Nat → Prop} {x : tCommit.El} {cs : List Value} (h : tCommit.rep w S x cs) (hl : (tCommit.enc x).length ≤ 1099511627776) :
    Calls Tryz.prog 37 #[.agg cs.toArray] w fun e w' => ∃ v', e = .returned v' ∧ Fresh w w' v' (tCommit.enc x) := by
  obtain ⟨x0, x1, _⟩ := x
  obtain ⟨c0, _, rfl, r0, c1, _, rfl, r1, rfl⟩ := h
  obtain ⟨y0, rfl⟩ : ∃ y, c0 = [y] := by obtain ⟨v, _, e, _⟩ := r0; exact ⟨v, e⟩
  have l1 : c1.length = 37 := Sh.rep_size _ _ _ r1
  obtain ⟨y1, hy1⟩ : ∃ y, y = c1 := ⟨_, rfl⟩
  subst hy1
  have R0 := Lib.hid r0; clear r0
  have R1 := Lib.hid r1; clear r1
  obtain ⟨C, hC⟩ : ∃ C, C = [y0] ++ (y1 ++ ([])) := ⟨_, rfl⟩
  rw [← hC]
  have hf : ∀ w', Blk w' w.heap.size 56 C.toArray → w'.cell? ⟨w.heap.size, 0, none⟩ = some y0 ∧ w'.rangeAt w.heap.size 1 y1 := fun w' hb => by
    have := hb.lies [[y0], y1] [] (by rw [hC]; simp)
    simp only [Lies, List.length_cons, List.length_nil] at this
    obtain ⟨s0, s1, _⟩ := this
    exact ⟨Lies.one s0, s1⟩
  have HF := Lib.hid hf
  clear hf hC
  have hrows : tCommit.enc (x0, x1, ()) = joinB [(Sh.list tHeader).enc x0, tQC.enc x1] := rfl
  have hl' : (joinB [(Sh.list tHeader).enc x0, tQC.enc x1]).length ≤ 1099511627776 := hl
  have HLL := Lib.hid hl'
  clear hl hl'
  go_enter Tryz.func37, Tryz.ntmps37
  go_wp2_with fail
  have hsz : w.heap.size < w.heap.size + 1 := by omega
  refine wp_region_hoist [0, 1, 3, 4] [2, 5] [6, 7, 8] (fun w' => Blk w' w.heap.size 56 C.toArray)
    (by kernel_rfl) (by kernel_rfl) (by kernel_rfl) (by kernel_rfl) (by kernel_rfl) (by kernel_rfl) (Blk.new w _ _).drew ?_
  (refine HoistK.yes (by rfl) (by kernel_rfl) ⟨?_, fun w' hSw => ?_, ?_⟩; rotate_left; (· go_simp; try with_reducible rfl); simp only [Act.put, List.setIfInBounds_toArray, List.getElem_toArray, List.getElem_cons_zero, List.set_cons_succ, List.set_cons_zero])
  (refine HoistK.yes (by rfl) (by kernel_rfl) ⟨?_, fun w' hSw => ?_, ?_⟩; rotate_left; (· obtain ⟨s0, s1⟩ := HF.out _ hSw; go_simp; try with_reducible rfl); simp only [Act.put, List.setIfInBounds_toArray, List.getElem_toArray, List.getElem_cons_succ, List.getElem_cons_zero, List.set_cons_succ, List.set_cons_zero])
  (refine HoistK.yes (by rfl) (by kernel_rfl) ⟨?_, fun w' hSw => ?_, ?_⟩; rotate_left; (· go_simp; try with_reducible rfl); simp only [Act.put, List.setIfInBounds_toArray, List.getElem_toArray, List.getElem_cons_succ, List.getElem_cons_zero, List.set_cons_succ, List.set_cons_zero])
  (refine HoistK.load (by rfl) (by kernel_rfl) 33 _ rfl w.heap.size 1 rfl (y1) _ (fun w' hw => (HF.out w' hw).2) Tryz.underlying33 rfl (by rw [l1]; kernel_rfl) ?_; simp only [Act.put, List.setIfInBounds_toArray, List.getElem_toArray, List.getElem_cons_succ, List.getElem_cons_zero, List.set_cons_succ, List.set_cons_zero])
  refine HoistK.nil_ ?_
  simp only [opsAt, List.filterMap_cons, List.filterMap_nil, List.getElem?_toArray, List.getElem?_cons_succ, List.getElem?_cons_zero]
  have hb0 : Blk (w.alloc (.cells C.toArray 56)).drew w.heap.size 56 C.toArray := (Blk.new w _ _).drew
  have g0 : Got w (w.alloc (.cells C.toArray 56)).drew [] [] := Got.start ((Below.refl _ w).alloc (Nat.le_refl _) _).drew
  refine Effects.cons_ fun _ hQ1 => ?_
  go_wp2_with fail
  refine (listHeader_any _ (Sh.rep_below R0.out g0.1) (by have h1 := HLL.out; rw [joinB_length] at h1; have h2 := joinP_mem (l := [(Sh.list tHeader).enc x0, tQC.enc x1]) (x := (Sh.list tHeader).enc x0) (by simp); omega)).mono ?_
  rintro e w1 ⟨v1, rfl, f1⟩
  have g1 := g0.step f1
  have hb1 := hb0.below f1.2 hb0.lt
  clear f1
  go_wp2_with fail
  refine hQ1 _ _ hb1 (Effects.cons_ fun _ hQ2 => ?_)
  clear hQ1 hb0 g0
  go_wp2_with fail
  refine (qc_any _ (Sh.rep_below R1.out g1.1) (by have h1 := HLL.out; rw [joinB_length] at h1; have h2 := joinP_mem (l := [(Sh.list tHeader).enc x0, tQC.enc x1]) (x := tQC.enc x1) (by simp); omega)).mono ?_
  rintro e w2 ⟨v2, rfl, f2⟩
  have g2 := g1.step f2
  have hb2 := hb1.below f2.2 hb1.lt
  clear f2
  go_wp2_with fail
  refine hQ2 _ _ hb2 (Effects.nil_ fun _ hQ3 => ?_)
  clear hQ2 hb1 g1
  have hcs : ∀ v ∈ [v1, v2], v.cells = #[v] := fun v hv => by
    obtain ⟨i, hi, rfl⟩ := List.getElem_of_mem hv
    obtain ⟨y, _, hr⟩ := g2.2.get i hi
    obtain ⟨A, c, e⟩ := hr.form
    have e' : [v1, v2][i] = .slice A y.length c := e
    rw [e']; rfl
  refine wpList_rows rfl 2 _ rfl [v1, v2] rfl (by decide) (by decide) hcs (by simp [Act.eval]) ?_
  have hr : Bsr (w2.alloc (.cells [v1, v2].toArray 50)) (fun b => b < w2.heap.size + 1) (.slice (some ⟨w2.heap.size, 0, none⟩) 2 2) [(Sh.list tHeader).enc x0, tQC.enc x1] := g2.row (by simp [maxLen]) 50
  have hj := join_any _ hr (by have := HLL.out; omega) (fun b hb => by simpa using hb)
  have hbb : Below w.heap.size w (w2.alloc (.cells [v1, v2].toArray 50)) := g2.1.alloc g2.1.size _
  have HJ := Lib.hid hj
  have HBB := Lib.hid hbb
  clear hj hbb hr g2 hcs
  go_wp2_with fail
  refine HJ.out.mono ?_
  rintro e w3 ⟨v3, rfl, f3⟩
  go_wp2_with fail
  go_ret
  exact ⟨v3, rfl, f3.1.sub fun b hb _ => ⟨Nat.le_trans HBB.out.size hb.1, hb.2⟩, HBB.out.trans (f3.2.mono HBB.out.size)⟩

end Go.Proofs.YtjjgmkfkmckkoabGreatDoor

/- Codec: a truth value's byte. -/
namespace Go.Proofs.YtjjgmkfkmckkoabGreatDoor
open Go.RowKit Go.Maps

theorem truth_any (w : World) (b : Bool) : Calls Tryz.prog 39 #[.bool b] w fun e w' => ∃ v', e = .returned v' ∧ Fresh w w' v' (truthB b) := by
  have hn : ∀ x : UInt8, Bs (w.alloc (.cells #[.int .u8 x.toNat] 5)) (fun b => b = w.heap.size) (.slice (some ⟨w.heap.size, 0, none⟩) 1 1) [x] := fun x => Bs.of_new w 5 [x] (by simp) (0, 0)
  have HN := Lib.hid hn; clear hn
  have hbl : ∀ o : Obj, Below w.heap.size w (w.alloc o) := fun o => (Below.refl _ w).alloc (Nat.le_refl _) o
  cases b
  · go_enter Tryz.func39, Tryz.ntmps39
    go_wp2
    go_ret
    exact ⟨_, rfl, (HN.out 0).sub (fun b hb _ => ⟨Nat.le_of_eq hb.symm, by subst hb; exact ⟨_, _, Blk.new w _ _⟩⟩), hbl _⟩
  · go_enter Tryz.func39, Tryz.ntmps39
    go_wp2
    go_ret
    exact ⟨_, rfl, (HN.out 1).sub (fun b hb _ => ⟨Nat.le_of_eq hb.symm, by subst hb; exact ⟨_, _, Blk.new w _ _⟩⟩), hbl _⟩

end Go.Proofs.YtjjgmkfkmckkoabGreatDoor
