/- Texts joined: CfB Cut CfC CfD BuildS CfE CfG CgI CfI CfJ CfL CfW CgN CsA CrA CrB CrC CrD CrF CrG Hoist2 Hoist3 Hoist7. -/
import Derived.Test.YtjjgmkfkmckkoaaDoorMa
import Derived.Stop.Asserts
import Derived.Stop.IfaceNil
import Derived.LaidEql
import Derived.Laws.Cover3
import Derived.RegionTactic
import Derived.Great.BuildSlice
import Derived.Laws.Tables
import Derived.Deep.QuietTactic
import Derived.BigQuiet
/- Codec: the methods of parts. -/
namespace Go.Proofs.YtjjgmkfkmckkoaaDoor
open Go.RowKit Go.Maps

theorem Bsr.tail {w : World} {S : Nat → Prop} {b off cap : Nat} {x : List UInt8} {rows : List (List UInt8)} (h : Bsr w S (.slice (some ⟨b, off, none⟩) (rows.length + 1) cap) (x :: rows)) : Bsr w S (.slice (some ⟨b, off + 1, none⟩) rows.length (cap - 1)) rows := by
  obtain ⟨vs, ⟨hl, A, c, e, hn, hc, hp⟩, h2⟩ := h
  injection e with e1 e2 e3
  subst e1 e3
  obtain ⟨b', off', e', hS, hlt, hcell⟩ := hp (by simp)
  injection e' with e'
  injection e' with e1 e2
  subst e1 e2
  obtain ⟨u, vs, rfl⟩ : ∃ u l, vs = u :: l := by
    cases vs with
    | nil => simp at hl
    | cons u l => exact ⟨u, l, rfl⟩
  simp only [List.length_cons] at hl hn
  refine ⟨vs, ⟨by omega, _, _, rfl, by omega, by omega, fun _ => ⟨b, off + 1, rfl, hS, hlt, fun j v hj => ?_⟩⟩, fun i y v h3 h4 => h2 (i + 1) y v h3 h4⟩
  have := hcell (j + 1) v hj
  rwa [show off + (j + 1) = off + 1 + j by omega] at this
theorem Bsr.none_ (w : World) (S : Nat → Prop) (A : Option Addr) {c : Nat} (hc : c ≤ maxLen) : Bsr w S (.slice A 0 c) [] :=
  ⟨[], ⟨by simp, A, c, rfl, Nat.zero_le _, hc, fun h => absurd h (Nat.lt_irrefl 0)⟩, fun i x u h => by simp at h⟩
theorem Bsr.cap_ {w : World} {S : Nat → Prop} {A : Option Addr} {n cap : Nat} {rows : List (List UInt8)} (h : Bsr w S (.slice A n cap) rows) : n ≤ cap ∧ cap ≤ maxLen := by
  obtain ⟨vs, ⟨_, _, _, e, hn, hc, _⟩, _⟩ := h
  injection e with e1 e2 e3
  subst e2 e3
  exact ⟨hn, hc⟩

theorem bad_any (w : World) {X : Nat → Prop} {E g : Nat} {sent e : Value} {rows : List (List UInt8)} {bad : Bool} (h : Pt w X E g sent rows bad) (hc : Chain w (fun b => ¬ X b ∧ E ≤ b) sent e) :
    Calls Tryd.prog 103 #[.pointer (some ⟨g, 0, none⟩), e] w fun en w' => en = .returned (.tuple #[]) ∧ Chg (fun k => k = g) w w' ∧ Pt w' X E g sent rows true := by
  obtain ⟨hg, hn, hx, hl, hE, v, e0, hb, hr, he⟩ := h
  obtain ⟨g', rfl⟩ := hc.form
  have HG := Lib.hid hg; clear hg
  have HR := Lib.hid hr; clear hr
  have HC := Lib.hid hc; clear hc
  obtain ⟨hcell, hfr⟩ := hb.rules
  have HB := Lib.hid hb; clear hb
  rcases he with ⟨rfl, rfl⟩ | ⟨rfl, he⟩
  · go_enter Tryd.func103, Tryd.ntmps103
    go_wp2
    go_end0
    have hch : Chg (fun k => k = g) w (w.setCell ⟨g, 1, none⟩ (.iface 133 (.pointer (some ⟨g', 0, none⟩)))) := (Chg.refl _ w).setIn 1 _
    exact ⟨rfl, hch, HG.out.chg hch fun h => hn (h ▸ hx), hn, hx, fun b h => by simpa using hl b h, by simpa using hE, v, _, HB.out.set_ 1 _, HR.out.chg hch fun b hb h => hb (h ▸ hx), .inr ⟨rfl, HC.out.chg hch fun b hb h => hb.1 (h ▸ hx)⟩⟩
  · obtain ⟨g'', rfl⟩ := he.form
    have HE := Lib.hid he; clear he
    go_enter Tryd.func103, Tryd.ntmps103
    go_wp2
    go_end0
    exact ⟨rfl, Chg.refl _ _, HG.out, hn, hx, hl, hE, v, _, HB.out, HR.out, .inr ⟨rfl, HE.out⟩⟩

theorem next_any (w : World) {X : Nat → Prop} {E g : Nat} {sent : Value} {x : List UInt8} {rows : List (List UInt8)} {bad : Bool} (h : Pt w X E g sent (x :: rows) bad) :
    Calls Tryd.prog 102 #[.pointer (some ⟨g, 0, none⟩)] w fun en w' => ∃ v, en = .returned v ∧ Bs w' (fun b => ¬ X b) v x ∧ Chg (fun k => k = g) w w' ∧ Pt w' X E g sent rows bad := by
  obtain ⟨hg, hn, hx, hl, hE, v, e0, hb, hr, he⟩ := h
  have HG := Lib.hid hg; clear hg
  have HE := Lib.hid he; clear he
  obtain ⟨hcell, hfr⟩ := hb.rules
  have HB := Lib.hid hb; clear hb
  obtain ⟨A, cap, rfl⟩ := hr.form
  obtain ⟨b, off, u, rfl, hu, hbs, hlt, hne⟩ := hr.at_ (k := 0) (by simp)
  have hu : w.cell? ⟨b, off, none⟩ = some u := hu
  have HBS := Lib.hid hbs; clear hbs
  have hcap := hr.cap_
  simp only [List.length_cons] at hcap
  obtain ⟨hc1, hc2⟩ := hcap
  have HR := Lib.hid hr; clear hr
  have HC2 := Lib.hid hc2; clear hc2
  have hch : ∀ z, Chg (fun k => k = g) w (w.setCell ⟨g, 0, none⟩ z) := fun z => (Chg.refl _ w).setIn 0 z
  have HCH := Lib.hid hch; clear hch
  have hfin : ∀ z, Bsr w (fun b => ¬ X b) z rows → (fun (en : Ending) w' => ∃ v, en = .returned v ∧ Bs w' (fun b => ¬ X b) v x ∧ Chg (fun k => k = g) w w' ∧ Pt w' X E g sent rows bad) (.returned u) (w.setCell ⟨g, 0, none⟩ z) := fun z hz =>
    ⟨u, rfl, HBS.out.chg (HCH.out z) fun b hb h => hb (h ▸ hx), HCH.out z, HG.out.chg (HCH.out z) fun h => hn (h ▸ hx), hn, hx, fun b h => by simpa using hl b h, by simpa using hE, z, e0, HB.out.set_ 0 z, hz.chg (HCH.out z) fun b hb h => hb (h ▸ hx), HE.out.to (fun b hb hl => ⟨by simpa using hl, (HCH.out z).block b hl fun h => hb.1 (h ▸ hx)⟩) fun _ h _ => h⟩
  have HF := Lib.hid hfin; clear hfin
  go_enter Tryd.func102, Tryd.ntmps102
  go_wp2
  · go_ret
    have h0 : rows = [] := List.eq_nil_of_length_eq_zero (by omega)
    subst h0
    exact HF.out _ (Bsr.none_ _ _ _ (Nat.zero_le _))
  · go_ret
    exact HF.out _ HR.out.tail

theorem Chain.fresh {w : World} {S : Nat → Prop} {sent : Value} (what : Value) (hS : S w.heap.size) : Chain (w.alloc (.cells #[what, sent] 137)) S sent (.iface 133 (.pointer (some ⟨w.heap.size, 0, none⟩))) :=
  .last hS (by simp) (Blk.new w _ _)
theorem Chain.freshMore {w : World} {S : Nat → Prop} {sent v : Value} (h : Chain w S sent v) (what : Value) (hS : S w.heap.size) : Chain (w.alloc (.cells #[what, v] 137)) S sent (.iface 133 (.pointer (some ⟨w.heap.size, 0, none⟩))) :=
  .more hS (by simp) (Blk.new w _ _) (h.low ((Below.refl _ w).alloc (Nat.le_refl _) _))
theorem run_make_bytes (n : Nat) (hn : n ≤ 1048576) (u : World) : (Instr.makeSlice 28 (.int .i64 n) (.int .i64 n)).run Tryd.prog u =
    .ok (.slice (some ⟨u.heap.size, 0, none⟩) n n) (u.alloc (.cells (u8s (List.replicate n 0)).toArray 5)) := by
  obtain ⟨i0, hi, hz0, hz1, hz2⟩ := info_parts info_u8
  have h := run_make (P := Tryd.prog) u 28 5 i0 (.int .u8 0) Tryd.underlying28 hi hz0 .i64 .i64 (n : Int) (n : Int) (by omega) (Int.le_refl _) (by rw [hz2]; omega) (by omega)
  simp only [Int.toNat_natCast] at h
  have e : madeCells (Value.int .u8 0).cells (n * i0.size) = (u8s (List.replicate n 0)).toArray := by
    apply Array.toList_inj.1
    rw [hz1, Nat.mul_one]
    exact (toList_madeCells_one _ _).trans (by simp [u8s])
  rw [h, e]
/-- What sized gives. -/
def Sized (w : World) (X : Nat → Prop) (E g : Nat) (sent : Value) (n : Nat) (x : List UInt8) (rows : List (List UInt8)) (bad : Bool) (en : Ending) (w' : World) : Prop :=
  ∃ v y bad', en = .returned v ∧ Bs w' (fun b => ¬ X b) v y ∧ y.length = n ∧ Chg (fun k => k = g) w w' ∧ Pt w' X E g sent rows bad' ∧ ((x.length = n ∧ y = x ∧ bad' = bad) ∨ (x.length ≠ n ∧ bad' = true))
theorem sized_any (w : World) {X : Nat → Prop} {E g : Nat} {sent : Value} {x : List UInt8} {rows : List (List UInt8)} {bad : Bool} (h : Pt w X E g sent (x :: rows) bad) (n : Nat) (hn : n ≤ 1000) :
    Calls Tryd.prog 104 #[.pointer (some ⟨g, 0, none⟩), .int .i64 n] w (Sized w X E g sent n x rows bad) := by
  have H := Lib.hid h; clear h
  by_cases hl : x.length = n
  · have HL := Lib.hid hl
    have hd : (((x.length : Nat) : Int) != (n : Int)) = false := by simp [hl]
    clear hl
    go_enter Tryd.func104, Tryd.ntmps104
    go_wp2_with fail
    refine (next_any _ H.out).mono ?_
    rintro e w1 ⟨v1, rfl, hb1, hc1, hp1⟩
    obtain ⟨A1, c1, rfl⟩ := hb1.form
    have HB1 := Lib.hid hb1
    have HP1 := Lib.hid hp1
    clear hb1 hp1
    go_wp2
    go_ret
    exact ⟨_, x, bad, rfl, HB1.out, HL.out, hc1, HP1.out, .inl ⟨HL.out, rfl, rfl⟩⟩
  · have HL := Lib.hid hl
    have hd : (((x.length : Nat) : Int) != (n : Int)) = true := by simp; omega
    clear hl
    go_enter Tryd.func104, Tryd.ntmps104
    go_wp2_with fail
    refine (next_any _ H.out).mono ?_
    rintro e w1 ⟨v1, rfl, hb1, hc1, hp1⟩
    obtain ⟨A1, c1, rfl⟩ := hb1.form
    have HB1 := Lib.hid hb1
    have HP1 := Lib.hid hp1
    obtain ⟨⟨sa, rfl⟩, hgl⟩ := hp1.1
    have hxl := hp1.2.2.2.1
    have hxE := hp1.2.2.2.2.1
    have hgl : w1.cell? ⟨gF, 0, none⟩ = some _ := hgl
    unfold gF at hgl
    clear hb1 hp1
    have hgs := HP1.out.lt
    have hp2 := HP1.out.below ((Below.refl w1.heap.size w1).alloc (Nat.le_refl _) (.cells #[.string ⟨#[97, 32, 112, 97, 114, 116]⟩, .iface 205 (.pointer (some sa))] 137))
    have hch : Chain (w1.alloc (.cells #[.string ⟨#[97, 32, 112, 97, 114, 116]⟩, .iface 205 (.pointer (some sa))] 137)) (fun b => ¬ X b ∧ E ≤ b) _ _ := Chain.fresh _ ⟨fun h => absurd (hxl _ h) (Nat.lt_irrefl _), hxE⟩
    have HB := Lib.hid (bad_any _ hp2 hch)
    clear hp2 hch hgs hxl hxE HP1 HB1 H
    have HMK := Lib.hid (run_make_bytes n (by omega))
    go_wp2_with fail
    refine HB.out.mono ?_
    rintro e w2 ⟨rfl, hc2, hp2⟩
    have HP2 := Lib.hid hp2; clear hp2
    have hmk := HMK.out w2
    go_wp2_with fail
    go_ret
    have hc3 := ((hc1.alloc _).trans hc2 fun b h => .inl h).alloc (.cells (u8s (List.replicate n 0)).toArray 5)
    have hb3 := Bs.of_new w2 5 (List.replicate n 0) (by rw [List.length_replicate]; omega) (0, 0)
    rw [List.length_replicate] at hb3
    have hlt := HP2.out.lt
    exact ⟨_, _, true, rfl, hb3.sub fun b hb _ h => by have := HP2.out.2.2.2.1 b h; omega, by simp, hc3, HP2.out.below ((Below.refl _ w2).alloc (Nat.le_refl _) _), .inr ⟨HL.out, rfl⟩⟩

/-- What u gives. -/
def Uout (w : World) (X : Nat → Prop) (E g : Nat) (sent : Value) (x : List UInt8) (rows : List (List UInt8)) (bad : Bool) (en : Ending) (w' : World) : Prop :=
  ∃ (m : Nat) (bad' : Bool), en = .returned (.int .u64 m) ∧ m < 18446744073709551616 ∧ Chg (fun k => k = g) w w' ∧ Pt w' X E g sent rows bad' ∧ ((x.length = 8 ∧ m = Lib.beNat x ∧ bad' = bad) ∨ (x.length ≠ 8 ∧ bad' = true))
theorem u_any (w : World) {X : Nat → Prop} {E g : Nat} {sent : Value} {x : List UInt8} {rows : List (List UInt8)} {bad : Bool} (h : Pt w X E g sent (x :: rows) bad) :
    Calls Tryd.prog 101 #[.pointer (some ⟨g, 0, none⟩)] w (Uout w X E g sent x rows bad) := by
  have H := Lib.hid (sized_any w h 8 (by omega)); clear h
  go_enter Tryd.func101, Tryd.ntmps101
  go_wp2_with fail
  refine H.out.mono ?_
  rintro e w1 ⟨v, y, bad', rfl, hb1, hl1, hc1, hp1, hx⟩
  have hu := u64_any w1 hb1.1 (by omega)
  rw [List.take_of_length_le (by omega)] at hu
  have HU := Lib.hid hu
  have HP := Lib.hid hp1
  have HL := Lib.hid hl1
  have HX := Lib.hid hx
  clear hu hp1 hb1 hl1 hx
  go_wp2_with fail
  refine HU.out.mono ?_
  rintro e w2 ⟨rfl, rfl⟩
  go_wp2_with fail
  go_ret
  exact ⟨_, bad', rfl, beNat_lt8 _ HL.out, hc1, HP.out, HX.out.imp (fun ⟨h1, h2, h3⟩ => ⟨h1, by rw [h2], h3⟩) id⟩
theorem beTook (sg : Bool) {w : World} {X : Nat → Prop} {E g : Nat} {sent : Value} {x : List UInt8} {rows : List (List UInt8)} {bad : Bool} {w' : World} {m : Nat} {bad' : Bool} (hc : Chg (fun k => k = g) w w') (hp : Pt w' X E g sent rows bad')
    (hx : (x.length = 8 ∧ m = Lib.beNat x ∧ bad' = bad) ∨ (x.length ≠ 8 ∧ bad' = true)) : Took (.num sg) w X E g sent x rows bad (.returned (.int (nk sg) ((nk sg).wrap m))) w' := by
  refine ⟨[.int (nk sg) ((nk sg).wrap m)], bad', rfl, hc, hp, rfl, fun v hv => by obtain rfl := List.mem_singleton.1 hv; rfl, ?_⟩
  have hd : (Sh.num sg).dec x = if x.length = 8 then some ((nk sg).wrap (Lib.beNat x)) else none := rfl
  rw [hd]
  rcases hx with ⟨h1, h2, h3⟩ | ⟨h1, h2⟩
  · exact .inl ⟨_, if_pos h1, h3, by rw [h2], nk_wrap_wrap _ _⟩
  · exact .inr ⟨if_neg h1, h2⟩
theorem uTook_any (w : World) {X : Nat → Prop} {E g : Nat} {sent : Value} {x : List UInt8} {rows : List (List UInt8)} {bad : Bool} (h : Pt w X E g sent (x :: rows) bad) :
    Calls Tryd.prog 101 #[.pointer (some ⟨g, 0, none⟩)] w (Took u64 w X E g sent x rows bad) := by
  refine (u_any w h).mono ?_
  rintro e w' ⟨m, bad', rfl, hm, hc, hp, hx⟩
  have := beTook false hc hp hx
  rw [wrap_u, show (m : Int) % 18446744073709551616 = m by omega] at this
  exact this
theorem n_any (w : World) {X : Nat → Prop} {E g : Nat} {sent : Value} {x : List UInt8} {rows : List (List UInt8)} {bad : Bool} (h : Pt w X E g sent (x :: rows) bad) :
    Calls Tryd.prog 88 #[.pointer (some ⟨g, 0, none⟩)] w (Took i64 w X E g sent x rows bad) := by
  have H := Lib.hid (u_any w h); clear h
  go_enter Tryd.func88, Tryd.ntmps88
  go_wp2_with fail
  refine H.out.mono ?_
  rintro e w1 ⟨m, bad', rfl, hm, hc, hp, hx⟩
  have HX := Lib.hid (beTook true hc hp hx)
  clear hc hp hx
  go_wp2_with fail
  go_ret
  have := HX.out
  rw [nk_t, IntWalk.i64_left] at this
  exact this
theorem int_any (w : World) {X : Nat → Prop} {E g : Nat} {sent : Value} {x : List UInt8} {rows : List (List UInt8)} {bad : Bool} (h : Pt w X E g sent (x :: rows) bad) :
    Calls Tryd.prog 83 #[.pointer (some ⟨g, 0, none⟩)] w (Took i64 w X E g sent x rows bad) := by
  have H := Lib.hid (u_any w h); clear h
  go_enter Tryd.func83, Tryd.ntmps83
  go_wp2_with fail
  refine H.out.mono ?_
  rintro e w1 ⟨m, bad', rfl, hm, hc, hp, hx⟩
  have HX := Lib.hid (beTook true hc hp hx)
  clear hc hp hx
  go_wp2_with fail
  go_ret
  have := HX.out
  rw [nk_t, IntWalk.i64_left] at this
  exact this

attribute [-simp] Tryd.isAgg23 Tryd.typeInfo23
set_option maxRecDepth 100000 in
theorem pdigest_any (w : World) {X : Nat → Prop} {E g : Nat} {sent : Value} {x : List UInt8} {rows : List (List UInt8)} {bad : Bool} (h : Pt w X E g sent (x :: rows) bad) :
    Calls Tryd.prog 89 #[.pointer (some ⟨g, 0, none⟩)] w (Took .dig w X E g sent x rows bad) := by
  have hlx := h.2.2.2.1
  have hgx := h.2.2.1
  have hgw := h.lt
  have hp0 := h.more ((Below.refl w.heap.size w).alloc (Nat.le_refl _) (.cells (u8s (List.replicate 32 0)).toArray 23)) (fun b => b = w.heap.size) (fun b hb => ⟨Nat.le_of_eq hb.symm, by rw [hb]; simp⟩)
  have H := Lib.hid (sized_any _ hp0 32 (by omega)); clear h hp0
  go_enter Tryd.func89, Tryd.ntmps89
  go_wp2_with fail
  refine H.out.mono ?_
  rintro e w1 ⟨v, y, bad', rfl, hb1, hl1, hc1, hp1, hx⟩
  obtain ⟨A, cap, rfl⟩ := hb1.form
  obtain ⟨⟨_, A', cap', e', hn, hcap, hp⟩, _⟩ := hb1
  injection e' with e1 e2 e3
  subst e1 e3
  obtain ⟨b, off, rfl, hS, hlt, hcell⟩ := hp (by omega)
  have hr : w1.rangeAt b off (u8s y) := fun j u hu => hcell j u hu
  have HR := Lib.hid hr
  have HP := Lib.hid hp1
  have HX := Lib.hid hx
  have HL := Lib.hid hl1
  have hl2 : 32 ≤ y.length := by omega
  have hat : (Instr.arrayAt 23 (.slice (some ⟨b, off, none⟩) y.length cap)).run Tryd.prog w1 = .ok (.pointer (some ⟨b, off, none⟩)) w1 := run_arrayAt w1 _ 5 32 _ _ _ Tryd.underlying23 hl2
  have hb0 : Blk w1 w.heap.size 23 (u8s (List.replicate 32 0)).toArray := (Blk.new w _ _).chg hc1 fun h => by omega
  have HLX := Lib.hid hlx; clear hlx
  clear hcell hr hp1 hx hl1 hp
  go_wp2_with (first | (refine wpList_load_mid rfl 23 _ rfl b off rfl (u8s y) _ HR.out Tryd.underlying23 rfl (by rw [u8s_length, HL.out]; kernel_rfl) ?_) | (refine wpList_store_blk (cs0 := u8s (List.replicate 32 0)) (cs := u8s y) rfl 23 _ _ rfl hb0 rfl rfl (by rw [u8s_length, u8s_length, HL.out]; rfl) (by rw [u8s_length, HL.out]; kernel_rfl) (u8s_one _) ?_; intro w4 hb4 hc4; have HB4 := Lib.hid hb4; have HC4 := Lib.hid hc4; clear hb4 hc4))
  have hld := run_loadVar_mid (P := Tryd.prog) w4 w.heap.size 0 23 (u8s y) _ HB4.out.range Tryd.underlying23 rfl (by rw [u8s_length, HL.out]; kernel_rfl)
  have hch : Chg (fun k => k = g) w w4 := (((Chg.refl (fun k => k = g) w).alloc _).trans hc1 fun b h => .inl h).trans HC4.out fun b h => .inr (Nat.le_of_eq h.symm)
  have hng : g ≠ w.heap.size := by omega
  exact bodyPost_ret (v := .agg (u8s y).toArray) (by simp [results, Tryd.results89, asAddr, hld, Act.put]) rfl ⟨u8s y, bad', rfl, hch, (HP.out.chg HC4.out fun b h => ⟨.inr h, fun e => hng (e.symm.trans h)⟩).less (fun b h => .inl h) hgx,
    by rw [u8s_length, HL.out]; rfl, u8s_one _, HX.out.imp (fun ⟨h1, h2, h3⟩ => ⟨y, by rw [← h2]; exact if_pos HL.out, h3, rfl, HL.out⟩) fun ⟨h1, h2⟩ => ⟨if_neg h1, h2⟩⟩

end Go.Proofs.YtjjgmkfkmckkoaaDoor

/- Slices of slices. -/
namespace Go.Proofs.YtjjgmkfkmckkoaaDoor
open Go.RowKit Go.Maps

theorem Cs.cut {w : World} {S : Nat → Prop} {A : Option Addr} {m cap : Nat} {xs : List Value} (h : Cs w S 1 (.slice A m cap) m xs) (lo hi : Nat) (h1 : lo ≤ hi) (h2 : hi ≤ m) (hm : 0 < m) :
    ∃ A', (∀ w' : World, (Instr.sliceAt 28 (.slice A m cap) (some (.int .i64 lo)) (some (.int .i64 hi)) none).run Tryd.prog w' = .ok (.slice A' (hi - lo) (cap - lo)) w') ∧ Cs w S 1 (.slice A' (hi - lo) (cap - lo)) (hi - lo) ((xs.drop lo).take (hi - lo)) := by
  obtain ⟨hl, A0, cap0, e, hn, hc, hp⟩ := h
  injection e with e0 _ e2
  subst e0 e2
  obtain ⟨b, off, rfl, hS, hlt, hcell⟩ := hp hm
  refine ⟨if cap = lo then some ⟨b, off, none⟩ else some ⟨b, off + lo, none⟩, fun w' => ?_, ?_, _, _, rfl, by omega, by simp only [maxLen] at hc ⊢; omega, fun h0 => ?_⟩
  · have h3 : (lo : Int) ≤ (hi : Int) := by omega
    have h4 : (hi : Int) ≤ (cap : Int) := by omega
    go_simp
  · rw [List.length_take, List.length_drop, hl]; omega
  · rw [if_neg (by omega)]
    refine ⟨b, off + lo, rfl, hS, hlt, fun j u hu => ?_⟩
    rw [List.getElem?_take] at hu
    split at hu
    · rw [List.getElem?_drop] at hu
      rw [Nat.add_assoc]
      exact hcell _ u hu
    · cases hu
theorem Cs.tail {w : World} {S : Nat → Prop} {A : Option Addr} {m cap : Nat} {xs : List Value} (h : Cs w S 1 (.slice A m cap) m xs) (lo : Nat) (h1 : lo ≤ m) (hm : 0 < m) :
    ∃ A', (∀ w' : World, (Instr.sliceAt 28 (.slice A m cap) (some (.int .i64 lo)) none none).run Tryd.prog w' = .ok (.slice A' (m - lo) (cap - lo)) w') ∧ Cs w S 1 (.slice A' (m - lo) (cap - lo)) (m - lo) (xs.drop lo) := by
  obtain ⟨hl, A0, cap0, e, hn, hc, hp⟩ := h
  injection e with e0 _ e2
  subst e0 e2
  obtain ⟨b, off, rfl, hS, hlt, hcell⟩ := hp hm
  refine ⟨if cap = lo then some ⟨b, off, none⟩ else some ⟨b, off + lo, none⟩, fun w' => ?_, ?_, _, _, rfl, by omega, by simp only [maxLen] at hc ⊢; omega, fun h0 => ?_⟩
  · have h3 : (lo : Int) ≤ (m : Int) := by omega
    have h4 : (m : Int) ≤ (cap : Int) := by omega
    go_simp
  · rw [List.length_drop, hl]; omega
  · rw [if_neg (by omega)]
    refine ⟨b, off + lo, rfl, hS, hlt, fun j u hu => ?_⟩
    rw [List.getElem?_drop] at hu
    rw [Nat.add_assoc]
    exact hcell _ u hu
theorem Cs.pre {w : World} {S : Nat → Prop} {A : Option Addr} {m cap : Nat} {xs : List Value} (h : Cs w S 1 (.slice A m cap) m xs) (k : Nat) (hk : k ≤ m) : Cs w S 1 (.slice A k k) k (xs.take k) := by
  obtain ⟨hl, A0, cap0, e, hn, hc, hp⟩ := h
  injection e with e0 _ e2
  subst e0 e2
  refine ⟨by rw [List.length_take, hl]; omega, _, _, rfl, Nat.le_refl _, by omega, fun h0 => ?_⟩
  obtain ⟨b, off, e, hS, hlt, hcell⟩ := hp (by omega)
  refine ⟨b, off, e, hS, hlt, fun j u hu => ?_⟩
  rw [List.getElem?_take] at hu
  split at hu
  · exact hcell j u hu
  · cases hu

end Go.Proofs.YtjjgmkfkmckkoaaDoor

/- Codec: bytes parted (sha.Split). -/
namespace Go.Proofs.YtjjgmkfkmckkoaaDoor
open Go.RowKit Go.Maps

/-- What Split answers. -/
def SplitOut (w : World) (bs : List UInt8) (e : Ending) (w' : World) : Prop :=
  Below w.heap.size w w' ∧ ((splitB bs = none ∧ e = .returned (.tuple #[.slice none 0 0, .bool false])) ∨ (∃ v' rows, splitB bs = some rows ∧ e = .returned (.tuple #[v', .bool true]) ∧ Bss w' (New w) (New w) v' rows))
theorem SplitOut.no {w w' : World} {bs : List UInt8} (hb : Below w.heap.size w w') (h : splitB bs = none) : SplitOut w bs (.returned (.tuple #[.slice none 0 0, .bool false])) w' := ⟨hb, .inl ⟨h, rfl⟩⟩
theorem cutB_zero (r : List UInt8) (h : 0 < r.length) : cutB 0 r = none := by
  unfold cutB
  rw [if_neg (fun e => by rw [e] at h; simp at h)]
theorem cutB_no (n : Nat) (r : List UInt8) (h : r.length < 8 ∨ r.length - 8 < Lib.beNat (r.take 8)) : cutB (n + 1) r = none := by
  unfold cutB
  rw [if_pos h]
theorem cutB_step (n : Nat) (r : List UInt8) (h : ¬ (r.length < 8 ∨ r.length - 8 < Lib.beNat (r.take 8))) : cutB (n + 1) r = (cutB n (r.drop (8 + Lib.beNat (r.take 8)))).map fun l => (r.drop 8).take (Lib.beNat (r.take 8)) :: l := by
  rw [cutB]
  rw [if_neg h]
theorem wrapI (n : Int) (h0 : -9223372036854775808 ≤ n) (h1 : n ≤ 9223372036854775807) : IntKind.i64.wrap n = n := by
  rw [show IntKind.i64 = nk true from rfl, wrap_s]; split <;> omega
theorem wrapU (n : Int) (h0 : 0 ≤ n) (h1 : n < 18446744073709551616) : IntKind.u64.wrap n = n := by
  rw [show IntKind.u64 = nk false from rfl, wrap_u]; omega

set_option maxHeartbeats 4000000 in
set_option maxRecDepth 100000 in
theorem split_any (w : World) {S : Nat → Prop} {v : Value} {bs : List UInt8} (h : Bs w S v bs) (hlen : bs.length ≤ 1099511627776) :
    Calls Tryd.prog 100 #[v] w (SplitOut w bs) := by
  replace h := h.sub (T := fun b => b < w.heap.size) (fun b _ hlt => hlt)
  obtain ⟨A, cap, rfl⟩ := h.form
  by_cases h8 : bs.length < 8
  · have hno : splitB bs = none := by unfold splitB; rw [if_pos (.inl h8)]
    have HNO := Lib.hid hno; clear hno h
    go_enter Tryd.func100, Tryd.ntmps100
    go_wp2
    go_ret2
    exact SplitOut.no (Below.refl _ _) HNO.out
  · have hu := u64_any w h.1 (by omega)
    obtain ⟨n, hn⟩ : ∃ n, n = Lib.beNat (bs.take 8) := ⟨_, rfl⟩
    rw [← hn] at hu
    obtain ⟨A1, hsl, hcs⟩ := h.1.tail 8 (by omega) (by omega)
    rw [show ((8 : Nat) : Int) = 8 from rfl] at hsl
    have hlt : n < 18446744073709551616 := by rw [hn]; exact beNat_lt8 _ (by rw [List.length_take]; omega)
    obtain ⟨m, hm⟩ : ∃ m, m = bs.length - 8 := ⟨_, rfl⟩
    rw [← hm] at hsl hcs
    obtain ⟨c1, hc1⟩ : ∃ c1, c1 = cap - 8 := ⟨_, rfl⟩
    rw [← hc1] at hsl hcs
    have hsp : splitB bs = if m / 8 < n then none else cutB n (bs.drop 8) := by
      unfold splitB
      rw [← hn, ← hm]
      by_cases h0 : m / 8 < n
      · rw [if_pos h0, if_pos (.inr h0)]
      · rw [if_neg h0, if_neg (by omega)]
    have hmb : m ≤ 1099511627776 := by omega
    have hml : (bs.drop 8).length = m := by rw [List.length_drop, hm]
    rw [show (u8s bs).drop 8 = u8s (bs.drop 8) by simp [u8s, List.map_drop]] at hcs
    have h8' : 8 ≤ bs.length := by omega
    have hbl : bs.length ≤ 1099511627776 := hlen
    obtain ⟨L, hL⟩ : ∃ L, L = bs.length := ⟨_, rfl⟩
    rw [← hL] at hsl hu h8' hbl ⊢
    have HU := Lib.hid hu
    have HN := Lib.hid hn
    have HM := Lib.hid hm
    have HL := Lib.hid hL
    have HML := Lib.hid hml
    have HCS := Lib.hid hcs
    have HSP := Lib.hid hsp
    have hwu := wrapU (m : Int) (by omega) (by omega)
    clear hu hn hm hml hcs hsp hc1 hL h hlen h8
    by_cases hbig : m / 8 < n
    · have hbI : ((m : Int) / 8) < (n : Int) := by omega
      have HSP2 := Lib.hid (HSP.out.trans (if_pos hbig))
      go_enter Tryd.func100, Tryd.ntmps100
      go_wp2_with fail
      refine HU.out.mono ?_
      rintro e w1 ⟨rfl, hw1⟩
      obtain rfl := hw1.symm
      go_wp2_with fail
      go_ret2
      exact SplitOut.no (Below.refl _ _) HSP2.out
    · have hbI : ¬ ((m : Int) / 8) < (n : Int) := by omega
      have HSP2 := Lib.hid (HSP.out.trans (if_neg hbig))
      go_enter Tryd.func100, Tryd.ntmps100
      go_wp2_with fail
      refine HU.out.mono ?_
      rintro e w1 ⟨rfl, hw1⟩
      obtain rfl := hw1.symm
      go_wp2_with fail
      have hnm8 : n ≤ m / 8 := by omega
      go_loopw [0, 5, 21] (fun v o i wr => ∃ (k : Nat) (done : List (List UInt8)) (r : List UInt8), k ≤ n ∧ i = .int .u64 k ∧ Cs wr (fun b => b < w.heap.size) 1 v r.length (u8s r) ∧ r.length ≤ m ∧ Bss wr (New w) (New w) o done ∧ done.length = k ∧ Below w.heap.size w wr ∧ splitB bs = (cutB (n - k) r).map (fun l => done ++ l)) (fun _ _ i _ => n - (intOf i).toNat)
      case atStart => exact ⟨0, [], bs.drop 8, Nat.zero_le _, rfl, by rw [HML.out]; exact HCS.out, Nat.le_of_eq HML.out, Bss.nil_ _ _ _, rfl, Below.refl _ _, by rw [HSP2.out, Nat.sub_zero]; simp⟩
      case round =>
        obtain ⟨k, done, r, hk, rfl, hcr, hrm, hbss, hdk, hbl2, hps⟩ := hrel
        obtain ⟨Ar, cr, rfl⟩ := hcr.form
        obtain ⟨q, hq⟩ : ∃ q, q = r.length := ⟨_, rfl⟩
        rw [← hq] at hcr hrm ⊢
        have HPS := Lib.hid hps; clear hps
        have HDK := Lib.hid hdk; clear hdk
        have HQ := Lib.hid hq; clear hq
        obtain ⟨Ao, co, rfl⟩ := hbss.form
        by_cases hkn : k < n
        · have hnk : n - k = (n - k - 1) + 1 := by omega
          have HNK := Lib.hid hnk; clear hnk
          by_cases hr8 : q < 8
          · have hno := Lib.hid (cutB_no (n - k - 1) r (.inl (by rw [← HQ.out]; exact hr8)))
            clear hbss hcr
            go_wp2
            go_ret2
            exact SplitOut.no hbl2 (by rw [HPS.out, HNK.out, hno.out]; rfl)
          · have hu := u64_any wr (bs := r) (by rw [← HQ.out]; exact hcr) (by rw [← HQ.out]; omega)
            obtain ⟨y, hy⟩ : ∃ y, y = Lib.beNat (r.take 8) := ⟨_, rfl⟩
            rw [← hy] at hu
            have HU := Lib.hid hu; clear hu
            have HY := Lib.hid hy; clear hy
            have hylt : y < 18446744073709551616 := by rw [HY.out]; exact beNat_lt8 _ (by rw [List.length_take, ← HQ.out]; omega)
            have e1 : IntKind.u64.wrap ((q : Int) - 8) = (q : Int) - 8 := wrapU _ (by omega) (by omega)
            by_cases hby : q - 8 < y
            · have hbyI : (q : Int) - 8 < (y : Int) := by omega
              have hno := Lib.hid (cutB_no (n - k - 1) r (.inr (by rw [← HQ.out, ← HY.out]; exact hby)))
              clear hbss hcr
              go_wp2_with fail
              refine HU.out.mono ?_
              rintro e w2 ⟨rfl, rfl⟩
              go_wp2_with fail
              go_ret2
              exact SplitOut.no hbl2 (by rw [HPS.out, HNK.out, hno.out]; rfl)
            · have hbyI : ¬ (q : Int) - 8 < (y : Int) := by omega
              have hst := Lib.hid (cutB_step (n - k - 1) r (by rw [← HQ.out, ← HY.out]; omega))
              go_wp2_with fail
              refine HU.out.mono ?_
              rintro e w2 ⟨rfl, hw2⟩
              obtain rfl := hw2.symm
              have e2 : IntKind.i64.wrap (y : Int) = y := wrapI _ (by omega) (by omega)
              have e3 : IntKind.i64.wrap (8 + (y : Int)) = 8 + (y : Int) := wrapI _ (by omega) (by omega)
              have hnm2 : 8 + y ≤ q := by omega
              obtain ⟨A4, hr4, hc4⟩ := hcr.cut 8 (8 + y) (by omega) hnm2 (by omega)
              obtain ⟨A5, hr5, hc5⟩ := hcr.tail (8 + y) hnm2 (by omega)
              have ec : ((8 + y : Nat) : Int) = 8 + (y : Int) := by push_cast; rfl
              rw [ec] at hr4 hr5
              rw [show ((8 : Nat) : Int) = 8 from rfl] at hr4
              rw [show 8 + y - 8 = y by omega] at hr4 hc4
              have HC4 := Lib.hid hc4; clear hc4
              have HC5 := Lib.hid hc5; clear hc5 ec
              obtain ⟨x, hx⟩ : ∃ x, x = (r.drop 8).take y := ⟨_, rfl⟩
              have hxl : x.length = y := by rw [hx, List.length_take, List.length_drop, ← HQ.out]; omega
              have hxc : ((u8s r).drop 8).take y = u8s x := by rw [hx]; simp [u8s, List.map_take, List.map_drop]
              rw [hxc] at HC4
              have HX := Lib.hid hx; clear hx
              have HXL := Lib.hid hxl; clear hxl hxc
              have HBSS := Lib.hid hbss
              obtain ⟨vs, hoo, hoS, hoR⟩ := hbss
              have hdl : done.length ≤ 274877906944 := by rw [HDK.out]; omega
              have h63 : 0 + y ≤ maxLen := by simp only [maxLen]; omega
              have hby1 : (0 + y) * 1 ≤ 140737488355328 := by omega
              have h63b : done.length + 1 ≤ maxLen := by simp only [maxLen]; omega
              have hby2 : (done.length + 1) * 24 ≤ 140737488355328 := by omega
              have H63 := Lib.hid (And.intro h63 (And.intro hby1 (And.intro h63b hby2))); clear h63 hby1 h63b hby2
              have HOO := Lib.hid hoo; clear hoo
              have HOR := Lib.hid hoR; clear hoR
              have HOS := Lib.hid hoS; clear hoS
              go_wp2_with fail
              refine HU.out.mono ?_
              rintro x1 w3 ⟨rfl, hw3⟩
              obtain rfl := hw3.symm
              clear e1
              go_wp2_with (first
                | (at_builtin; refine wpList_app _ rfl _ _ _ rfl Tryd.underlying28 info_u8 rfl (by decide) (Own.nil_ _ _ _) rfl HC4.out rfl (u8s_one _) H63.out.1 H63.out.2.1 ?_; intro v1 w5 ho5 hc5 hnil5 hat5; clear hnil5
                   have hb5 : Below wr.heap.size wr w5 := hc5.below (Nat.le_refl _) fun b hb => by simp [Value.ownBlock] at hb
                   rw [Nat.zero_add, List.nil_append] at ho5
                   have ho5' : Own w5 5 1 v1 y (u8s x) := ho5
                   clear ho5 hc5
                   obtain ⟨A6, cap6, rfl⟩ := ho5'.form
                   have HO5 := Lib.hid ho5'; clear ho5'
                   have HAT5 := Lib.hid hat5; clear hat5
                   have HO2 := Lib.hid (show ∀ ob, Own (w5.alloc ob) 28 1 (.slice Ao done.length co) done.length vs from fun ob => own_keep HOO.out fun k hk => (Below.heap_alloc w5 ob k (Nat.lt_of_lt_of_le (own_lt HOO.out hk) hb5.size)).trans (hb5.block k (own_lt HOO.out hk)))
                   have HS2 := Lib.hid (Cs.of_new w5 28 (size := 1) 1 (cs := [.slice A6 y cap6]) rfl (by simp only [maxLen]; decide))
                   have HB5 := Lib.hid hb5; clear hb5)
                | (at_builtin; refine wpList_app _ rfl _ _ _ rfl Tryd.underlying93 info_row rfl (by decide) (HO2.out _) rfl HS2.out rfl (by simp [Value.oneCell']) H63.out.2.2.1 H63.out.2.2.2 ?_; intro v2 w6 ho6 hc6 hnil6 hat6; clear hnil6
                   obtain ⟨A7, cap7, rfl⟩ := ho6.form
                   have HO6 := Lib.hid ho6; clear ho6
                   have HC6 := Lib.hid hc6; clear hc6
                   have HAT6 := Lib.hid hat6; clear hat6))
              have hs5 := HB5.out.size
              have hsM := hbl2.size
              have hown5 : ∀ k, (Value.slice A6 y cap6).ownBlock = some k → k = wr.heap.size := fun k hk => by
                rcases HAT5.out with e | e
                · rw [e] at hk; simp [Value.ownBlock] at hk
                · rw [e] at hk; injection hk with hk; exact hk.symm
              have hox : ∀ k, (Value.slice Ao done.length co).ownBlock = some k → k < wr.heap.size := fun k hk => own_lt HOO.out hk
              have hal : w5.heap.size ≤ (w5.alloc (.cells #[.slice A6 y cap6] 28)).heap.size := by simp
              have hbX : Below wr.heap.size wr (w5.alloc (.cells #[.slice A6 y cap6] 28)) := HB5.out.alloc hs5 _
              have hxv : Cs (w5.alloc (.cells #[.slice A6 y cap6] 28)) (fun b => New w b ∧ (Value.slice Ao done.length co).ownBlock ≠ some b) 1 (.slice A6 y cap6) x.length (u8s x) := by
                rw [HXL.out]
                exact (Cs.of_own HO5.out (S := fun b => New w b ∧ (Value.slice Ao done.length co).ownBlock ≠ some b) fun k hk => by
                  have := hown5 k hk
                  subst this
                  exact ⟨hsM, fun e => by have := hox _ e; omega⟩).below ((Below.refl _ w5).alloc (Nat.le_refl _) _)
              have hpush := Bss.push (S := New w) (T := New w) (HO2.out _) HOS.out (fun i y u h1 h2 => (HOR.out i y u h1 h2).below hbX) hxv HO6.out HC6.out HAT6.out (Nat.le_trans hsM (Nat.le_trans hs5 hal))
              have hrl : (r.drop (8 + y)).length = q - (8 + y) := by rw [List.length_drop, ← HQ.out]
              have h1 : Below w.heap.size w (w5.alloc (.cells #[.slice A6 y cap6] 28)) := hbl2.trans (hbX.mono hsM)
              refine ⟨⟨k + 1, done ++ [x], r.drop (8 + y), by omega, by push_cast; rfl, ?_, by rw [hrl]; omega, hpush, by rw [List.length_append, HDK.out]; rfl, h1.trans (HC6.out.below h1.size fun k hk => HOS.out k hk), ?_⟩, ?_⟩
              · have := HC5.out
                rw [show (u8s r).drop (8 + y) = u8s (r.drop (8 + y)) by simp [u8s, List.map_drop]] at this
                rw [hrl]
                exact (this.below hbX).chg HC6.out fun b hb hk => by have := HOS.out b hk; omega
              · rw [HPS.out, HNK.out, hst.out, ← HY.out, ← HX.out, Option.map_map, show n - k - 1 = n - (k + 1) by omega]
                congr 1
                funext l
                simp
              · simp only [intOf]; omega
        · have hkn' : k = n := by omega
          by_cases hr0 : 0 < q
          · have hno := Lib.hid (cutB_zero r (by rw [← HQ.out]; exact hr0))
            clear hbss hcr
            go_wp2
            go_ret2
            exact SplitOut.no hbl2 (by rw [HPS.out, hkn', Nat.sub_self, hno.out]; rfl)
          · have hr : r = [] := List.eq_nil_of_length_eq_zero (by rw [← HQ.out]; omega)
            have HR := Lib.hid hr
            have HB := Lib.hid hbss
            have HKN := Lib.hid hkn'
            clear hbss hcr hr hkn'
            go_wp2
            go_ret2
            exact ⟨hbl2, .inr ⟨_, done, by rw [HPS.out, HKN.out, Nat.sub_self, HR.out]; simp [cutB], rfl, HB.out⟩⟩

end Go.Proofs.YtjjgmkfkmckkoaaDoor

/- Codec: bytes and truth values read; a thing's parts (split). -/
namespace Go.Proofs.YtjjgmkfkmckkoaaDoor
open Go.RowKit Go.Maps

theorem pbytes_any (w : World) {X : Nat → Prop} {E g : Nat} {sent : Value} {x : List UInt8} {rows : List (List UInt8)} {bad : Bool} (h : Pt w X E g sent (x :: rows) bad) :
    Calls Tryd.prog 96 #[.pointer (some ⟨g, 0, none⟩)] w (Took .byt w X E g sent x rows bad) := by
  have H := Lib.hid (next_any w h); clear h
  go_enter Tryd.func96, Tryd.ntmps96
  go_wp2_with fail
  refine H.out.mono ?_
  rintro e w1 ⟨v, rfl, hb, hc, hp⟩
  have h63 : 0 + x.length ≤ maxLen := by have := hb.2; simp only [maxLen]; omega
  have hby : (0 + x.length) * 1 ≤ 140737488355328 := by have := hb.2; omega
  have HB := Lib.hid hb
  have HP := Lib.hid hp
  have HH := Lib.hid (And.intro h63 hby)
  clear hb hp h63 hby
  go_wp2_with (at_builtin; refine wpList_app _ rfl _ _ _ rfl Tryd.underlying28 info_u8 rfl (by decide) (Own.nil_ _ _ _) rfl HB.out.1 rfl (u8s_one _) HH.out.1 HH.out.2 ?_; intro v2 w2 ho2 hc2 hn2 hat2; clear hn2; have HO := Lib.hid ho2; clear ho2; have HC := Lib.hid hc2; clear hc2; have HAT := Lib.hid hat2; clear hat2)
  go_ret
  have hb2 : Below w1.heap.size w1 w2 := HC.out.below (Nat.le_refl _) fun b hb => by simp [Value.ownBlock] at hb
  have ho := HO.out
  rw [Nat.zero_add, List.nil_append] at ho
  have hown : ∀ k, v2.ownBlock = some k → w.heap.size ≤ k := fun k hk => by
    rcases HAT.out with e | e
    · rw [e] at hk; simp [Value.ownBlock] at hk
    · rw [e] at hk; injection hk with hk; have := hc.size; omega
  have hrow : Bs w2 (fun b => w.heap.size ≤ b) v2 x := ⟨Cs.of_own ho hown, HB.out.2⟩
  obtain ⟨A2, c2, rfl⟩ := hrow.form
  exact ⟨[.slice A2 x.length c2], bad, rfl, hc.trans (Chg.of_below hb2 fun k => k = g) fun b h => .inl h, HP.out.below hb2, rfl, fun v hv => by obtain rfl := List.mem_singleton.1 hv; rfl, .inl ⟨x, rfl, rfl, _, rfl, hrow⟩⟩

theorem ptruth_any (w : World) {X : Nat → Prop} {E g : Nat} {sent : Value} {x : List UInt8} {rows : List (List UInt8)} {bad : Bool} (h : Pt w X E g sent (x :: rows) bad) :
    Calls Tryd.prog 97 #[.pointer (some ⟨g, 0, none⟩)] w (Took .bool w X E g sent x rows bad) := by
  have H := Lib.hid (sized_any w h 1 (by omega)); clear h
  go_enter Tryd.func97, Tryd.ntmps97
  go_wp2_with fail
  refine H.out.mono ?_
  rintro e w1 ⟨v, y, bad', rfl, hb1, hl1, hc1, hp1, hx⟩
  obtain ⟨c, rfl⟩ : ∃ c, y = [c] := by
    cases y with
    | nil => simp at hl1
    | cons c l => cases l with
      | nil => exact ⟨c, rfl⟩
      | cons d l => simp at hl1
  obtain ⟨⟨_, A, cap, rfl, hn, hcap, hp⟩, _⟩ := hb1
  obtain ⟨b, off, rfl, hS, hlt, hcell⟩ := hp (by simp)
  have hc0 : w1.cell? ⟨b, off, none⟩ = some (.int .u8 c.toNat) := hcell 0 _ rfl
  have HP := Lib.hid hp1
  have HX := Lib.hid hx
  have hc256 := c.toNat_lt
  obtain ⟨m, hm⟩ : ∃ m, m = c.toNat := ⟨_, rfl⟩
  rw [← hm] at hc0 hc256
  have HM := Lib.hid hm
  clear hp1 hx hl1 hp hcell hm
  by_cases h1 : 1 < m
  · obtain ⟨⟨sa, rfl⟩, hgl⟩ := HP.out.1
    have hgl : w1.cell? ⟨gF, 0, none⟩ = some _ := hgl
    unfold gF at hgl
    have hxl := HP.out.2.2.2.1
    have hxE := HP.out.2.2.2.2.1
    have hp2 := HP.out.below ((Below.refl w1.heap.size w1).alloc (Nat.le_refl _) (.cells #[.string ⟨#[97, 32, 116, 114, 117, 116, 104, 32, 118, 97, 108, 117, 101]⟩, .iface 205 (.pointer (some sa))] 137))
    have hch : Chain (w1.alloc (.cells #[.string ⟨#[97, 32, 116, 114, 117, 116, 104, 32, 118, 97, 108, 117, 101]⟩, .iface 205 (.pointer (some sa))] 137)) (fun b => ¬ X b ∧ E ≤ b) _ _ := Chain.fresh _ ⟨fun h => absurd (hxl _ h) (Nat.lt_irrefl _), hxE⟩
    have HB := Lib.hid (bad_any _ hp2 hch)
    have hd : ((m : Int) == 1) = false := by simp; omega
    have h1I : (1 : Int) < m := by omega
    clear hp2 hch hxl hxE H
    go_wp2_with fail
    refine HB.out.mono ?_
    rintro e w2 ⟨rfl, hc2, hp2⟩
    have HP2 := Lib.hid hp2; clear hp2
    go_wp2_with fail
    go_ret
    refine ⟨[.bool false], true, rfl, (hc1.alloc _).trans hc2 fun b h => .inl h, HP2.out, rfl, fun v hv => by obtain rfl := List.mem_singleton.1 hv; rfl, .inr ⟨?_, rfl⟩⟩
    have hd : Sh.bool.dec x = if x = [0] then some false else if x = [1] then some true else none := rfl
    rw [hd]
    have hxx : ∀ k : UInt8, k.toNat ≤ 1 → x ≠ [k] := fun k hk e => by
      rcases HX.out with ⟨_, h2, _⟩ | ⟨h2, _⟩
      · rw [← h2] at e; injection e with e; rw [HM.out, e] at h1; omega
      · rw [e] at h2; exact h2 rfl
    rw [if_neg (hxx 0 (by decide)), if_neg (hxx 1 (by decide))]
  · have h1I : ¬ (1 : Int) < m := by omega
    go_wp2_with fail
    go_ret
    refine ⟨[.bool ((m : Int) == 1)], bad', rfl, hc1, HP.out, rfl, fun v hv => by obtain rfl := List.mem_singleton.1 hv; rfl, ?_⟩
    have hd : Sh.bool.dec x = if x = [0] then some false else if x = [1] then some true else none := rfl
    rw [hd]
    rcases HX.out with ⟨_, h2, h3⟩ | ⟨h2, h3⟩
    · have hm := HM.out
      rcases Nat.lt_or_ge m 1 with h0 | h0
      · have hm0 : m = 0 := by omega
        have hc : c = 0 := by rw [← UInt8.toNat_inj, ← hm, hm0]; rfl
        subst hc
        rw [if_pos h2.symm]
        refine .inl ⟨false, rfl, h3, ?_⟩
        rw [hm0]; rfl
      · have hm0 : m = 1 := by omega
        have hc : c = 1 := by rw [← UInt8.toNat_inj, ← hm, hm0]; rfl
        subst hc
        rw [if_neg (by rw [← h2]; decide), if_pos h2.symm]
        refine .inl ⟨true, rfl, h3, ?_⟩
        rw [hm0]; rfl
    · rw [if_neg (fun e => by rw [e] at h2; exact h2 rfl), if_neg (fun e => by rw [e] at h2; exact h2 rfl)]
      exact .inr ⟨rfl, h3⟩

theorem joinP_mem_le {l : List (List UInt8)} {b : List UInt8} (h : splitB b = some l) : ∀ x ∈ l, x.length ≤ b.length := fun x hx => by
  have h1 := splitB_back h
  have h2 := joinP_mem hx
  rw [← h1, joinB_length]; omega
/-- What split gives. -/
def Start (w : World) (sent : Value) (b : List UInt8) (n : Nat) (en : Ending) (w' : World) : Prop :=
  ∃ g rows bad, en = .returned (.pointer (some ⟨g, 0, none⟩)) ∧ w.heap.size ≤ g ∧ Below w.heap.size w w' ∧ Pt w' (fun b => b = g) w.heap.size g sent rows bad ∧ rows.length = n ∧ (∀ x ∈ rows, x.length ≤ b.length) ∧ ((bad = false ∧ splitB b = some rows) ∨ (bad = true ∧ ∀ l, splitB b = some l → l.length ≠ n))
theorem run_make_rows (n : Nat) (hn : n ≤ 1048576) (u : World) : (Instr.makeSlice 93 (.int .i64 n) (.int .i64 n)).run Tryd.prog u =
    .ok (.slice (some ⟨u.heap.size, 0, none⟩) n n) (u.alloc (.cells (List.replicate n (.slice none 0 0)).toArray 28)) := by
  obtain ⟨i0, hi, hz0, hz1, hz2⟩ := info_parts info_row
  have h := run_make (P := Tryd.prog) u 93 28 i0 (.slice none 0 0) Tryd.underlying93 hi hz0 .i64 .i64 (n : Int) (n : Int) (by omega) (Int.le_refl _) (by rw [hz2]; omega) (by omega)
  simp only [Int.toNat_natCast] at h
  have e : madeCells (Value.slice none 0 0).cells (n * i0.size) = (List.replicate n (Value.slice none 0 0)).toArray := by
    apply Array.toList_inj.1
    rw [hz1, Nat.mul_one]
    exact toList_madeCells_one _ _
  rw [h, e]
theorem Bsr.empties (w : World) (n : Nat) (hn : n ≤ 1000) (S : Nat → Prop) (hS : S w.heap.size) : Bsr (w.alloc (.cells (List.replicate n (.slice none 0 0)).toArray 28)) S (.slice (some ⟨w.heap.size, 0, none⟩) n n) (List.replicate n []) := by
  have hc := Cs.of_new w 28 (size := 1) n (cs := List.replicate n (.slice none 0 0)) (by simp) (by simp only [maxLen]; omega)
  refine ⟨List.replicate n (.slice none 0 0), by rw [List.length_replicate]; exact hc.sub fun b hb _ => hb ▸ hS, fun i x u h1 h2 => ?_⟩
  rw [List.getElem?_replicate] at h1 h2
  split at h1
  · injection h1 with h1
    rw [if_pos (by assumption)] at h2
    injection h2 with h2
    subst h1 h2
    exact Bs.nil_ _ _
  · cases h1

theorem Start.mk {w W : World} {sent : Value} {bs : List UInt8} {n g : Nat} {v e : Value} {rows : List (List UInt8)} {bad : Bool} (hb : Below w.heap.size w W) (hgw : w.heap.size ≤ g) (hgl : Gl w sent) (hblk : Blk W g 147 #[v, e])
    (hr : Bsr W (fun b => ¬ b = g) v rows) (he : Err W (fun b => ¬ b = g ∧ w.heap.size ≤ b) sent bad e) (hn : rows.length = n) (hx : ∀ x ∈ rows, x.length ≤ bs.length) (hs : (bad = false ∧ splitB bs = some rows) ∨ (bad = true ∧ ∀ l, splitB bs = some l → l.length ≠ n)) :
    Start w sent bs n (.returned (.pointer (some ⟨g, 0, none⟩))) W :=
  ⟨g, rows, bad, rfl, hgw, hb, ⟨hgl.below hb, fun h => by have := hgl.lt; omega, rfl, fun b h => by rw [h]; exact hblk.lt, hb.size, v, e, hblk, hr, he⟩, hn, hx, hs⟩
theorem Bsr.empties' (w : World) (n : Nat) (hn : n ≤ 1000) (S : Nat → Prop) (hS : S w.heap.size) : Bsr (w.alloc (.cells (Array.replicate n (.slice none 0 0)) 28)) S (.slice (some ⟨w.heap.size, 0, none⟩) n n) (List.replicate n []) := by
  have := Bsr.empties w n hn S hS
  rwa [List.toArray_replicate] at this
/-- The two orders in which a wrong thing's parts are made. -/
theorem Start.bad1 {w w1 : World} {sent : Value} {bs : List UInt8} {n : Nat} (what : Value) (hb : Below w.heap.size w w1) (hg : Gl w sent) (hn : n ≤ 1000) (hs : ∀ l, splitB bs = some l → l.length ≠ n) :
    Start w sent bs n (.returned (.pointer (some ⟨w1.heap.size + 1 + 1, 0, none⟩))) (((w1.alloc (.cells (Array.replicate n (.slice none 0 0)) 28)).alloc (.cells #[what, sent] 137)).alloc (.cells #[.slice (some ⟨w1.heap.size, 0, none⟩) n n, .iface 133 (.pointer (some ⟨w1.heap.size + 1, 0, none⟩))] 147)) := by
  have h1 := Bsr.empties' w1 n hn (fun b => b = w1.heap.size) rfl
  obtain ⟨wa, hwa⟩ : ∃ wa, wa = w1.alloc (.cells (Array.replicate n (.slice none 0 0)) 28) := ⟨_, rfl⟩
  have hsa : wa.heap.size = w1.heap.size + 1 := by rw [hwa]; simp
  have hba : Below w.heap.size w wa := hwa ▸ hb.alloc hb.size _
  have h2 := Chain.fresh (w := wa) (sent := sent) (S := fun b => b = wa.heap.size) what rfl
  rw [← hwa] at h1 ⊢
  obtain ⟨wb, hwb⟩ : ∃ wb, wb = wa.alloc (.cells #[what, sent] 137) := ⟨_, rfl⟩
  have hsb : wb.heap.size = wa.heap.size + 1 := by rw [hwb]; simp
  have hbb : Below wa.heap.size wa wb := hwb ▸ (Below.refl _ wa).alloc (Nat.le_refl _) _
  rw [← hwb] at h2 ⊢
  have hbc : ∀ o, Below wb.heap.size wb (wb.alloc o) := fun o => (Below.refl _ wb).alloc (Nat.le_refl _) o
  have hk := Blk.new wb 147 #[.slice (some ⟨w1.heap.size, 0, none⟩) n n, .iface 133 (.pointer (some ⟨w1.heap.size + 1, 0, none⟩))]
  have := hb.size
  rw [hsb, hsa] at hk
  rw [hsa] at h2
  exact Start.mk ((hba.trans (hbb.mono hba.size)).alloc (Nat.le_trans hba.size hbb.size) _) (by omega) hg hk (((h1.below hbb).below (hbc _)).subs fun b hb _ h => by omega)
    (.inr ⟨rfl, (h2.low (hbc _)).sub fun b hb _ => ⟨fun h => by omega, by omega⟩⟩) (by simp) (fun x hx => by rw [List.eq_of_mem_replicate hx]; simp) (.inr ⟨rfl, hs⟩)
theorem Start.bad2 {w w1 : World} {sent : Value} {bs : List UInt8} {n : Nat} (what : Value) (hb : Below w.heap.size w w1) (hg : Gl w sent) (hn : n ≤ 1000) (hs : ∀ l, splitB bs = some l → l.length ≠ n) :
    Start w sent bs n (.returned (.pointer (some ⟨w1.heap.size + 1 + 1, 0, none⟩))) (((w1.alloc (.cells #[what, sent] 137)).alloc (.cells (Array.replicate n (.slice none 0 0)) 28)).alloc (.cells #[.slice (some ⟨w1.heap.size + 1, 0, none⟩) n n, .iface 133 (.pointer (some ⟨w1.heap.size, 0, none⟩))] 147)) := by
  have h2 := Chain.fresh (w := w1) (sent := sent) (S := fun b => b = w1.heap.size) what rfl
  obtain ⟨wa, hwa⟩ : ∃ wa, wa = w1.alloc (.cells #[what, sent] 137) := ⟨_, rfl⟩
  have hsa : wa.heap.size = w1.heap.size + 1 := by rw [hwa]; simp
  have hba : Below w.heap.size w wa := hwa ▸ hb.alloc hb.size _
  have h1 := Bsr.empties' wa n hn (fun b => b = wa.heap.size) rfl
  rw [← hwa] at h2 ⊢
  obtain ⟨wb, hwb⟩ : ∃ wb, wb = wa.alloc (.cells (Array.replicate n (.slice none 0 0)) 28) := ⟨_, rfl⟩
  have hsb : wb.heap.size = wa.heap.size + 1 := by rw [hwb]; simp
  have hbb : Below wa.heap.size wa wb := hwb ▸ (Below.refl _ wa).alloc (Nat.le_refl _) _
  rw [← hwb] at h1 ⊢
  have hbc : ∀ o, Below wb.heap.size wb (wb.alloc o) := fun o => (Below.refl _ wb).alloc (Nat.le_refl _) o
  have hk := Blk.new wb 147 #[.slice (some ⟨w1.heap.size + 1, 0, none⟩) n n, .iface 133 (.pointer (some ⟨w1.heap.size, 0, none⟩))]
  have := hb.size
  rw [hsb, hsa] at hk
  rw [hsa] at h1
  exact Start.mk ((hba.trans (hbb.mono hba.size)).alloc (Nat.le_trans hba.size hbb.size) _) (by omega) hg hk ((h1.below (hbc _)).subs fun b hb _ h => by omega)
    (.inr ⟨rfl, ((h2.low hbb).low (hbc _)).sub fun b hb _ => ⟨fun h => by omega, by omega⟩⟩) (by simp) (fun x hx => by rw [List.eq_of_mem_replicate hx]; simp) (.inr ⟨rfl, hs⟩)

theorem Start.drew {w W : World} {sent : Value} {bs : List UInt8} {n : Nat} {e : Ending} (h : Start w sent bs n e W) : Start w sent bs n e W.drew := by
  obtain ⟨g, rows, bad, h1, h2, h3, h4, h5⟩ := h
  exact ⟨g, rows, bad, h1, h2, h3.drew, h4.below (Below.refl _ W).drew, h5⟩

set_option maxRecDepth 100000 in
theorem psplit_any (w : World) {S : Nat → Prop} {v sent : Value} {bs : List UInt8} (h : Bs w S v bs) (hlen : bs.length ≤ 1099511627776) (hg : Gl w sent) (n : Nat) (hn : n ≤ 1000) (what : ByteArray) :
    Calls Tryd.prog 82 #[v, .int .i64 n, .string what] w (Start w sent bs n) := by
  have H := Lib.hid (split_any w h hlen)
  obtain ⟨A, cap, rfl⟩ := h.form
  have HG := Lib.hid hg
  clear h hg
  go_enter Tryd.func82, Tryd.ntmps82
  go_wp2_with fail
  refine H.out.mono ?_
  rintro e w1 ⟨hb1, ⟨hno, rfl⟩ | ⟨v1, rows, hsp, rfl, hbss⟩⟩
  · have HNO := Lib.hid hno; clear hno
    obtain ⟨⟨sa, rfl⟩, hgl⟩ := HG.out.below hb1
    have hgl : w1.cell? ⟨gF, 0, none⟩ = some _ := hgl
    unfold gF at hgl
    have hmk := run_make_rows n (by omega)
    have hg1 : 1 < w1.heap.size := (HG.out.below hb1).lt
    go_wp2_with fail
    go_region
    · go_wp2
      go_ret
      exact Start.drew <| Start.bad1 _ hb1 HG.out hn fun l hl => by rw [HNO.out] at hl; cases hl
    · go_wp2
      go_ret
      exact Start.drew <| Start.bad2 _ hb1 HG.out hn fun l hl => by rw [HNO.out] at hl; cases hl
  · have hlr : ∀ x ∈ rows, x.length ≤ 140737488355328 := fun x hx => by have := joinP_mem_le hsp x hx; omega
    have HSP := Lib.hid hsp; clear hsp
    obtain ⟨A1, c1, rfl⟩ := hbss.form
    have HB := Lib.hid (hbss.read hlr)
    clear hbss hlr
    by_cases hl : rows.length = n
    · have HL := Lib.hid hl
      have hd : (((rows.length : Nat) : Int) != (n : Int)) = false := by simp [hl]
      clear hl
      go_wp2_with fail
      go_ret
      have hal := (Below.refl w1.heap.size w1).alloc (Nat.le_refl _) (.cells #[.slice A1 rows.length c1, .nilIface] 147)
      have := hb1.size
      exact Start.mk (hb1.trans (hal.mono this)) this HG.out (Blk.new w1 _ _) ((HB.out.lt_ (T := fun _ => True) fun _ _ => trivial).below hal |>.subs fun b hb _ h => by omega) (.inl ⟨rfl, rfl⟩) HL.out (joinP_mem_le HSP.out) (.inl ⟨rfl, HSP.out⟩)
    · have HL := Lib.hid hl
      have hd : (((rows.length : Nat) : Int) != (n : Int)) = true := by simp; omega
      clear hl
      obtain ⟨⟨sa, rfl⟩, hgl⟩ := HG.out.below hb1
      have hgl : w1.cell? ⟨gF, 0, none⟩ = some _ := hgl
      unfold gF at hgl
      have hmk := run_make_rows n (by omega)
      have hg1 : 1 < w1.heap.size := (HG.out.below hb1).lt
      go_wp2_with fail
      go_region
      · go_wp2
        go_ret
        exact Start.drew <| Start.bad1 _ hb1 HG.out hn fun l hl => by rw [HSP.out] at hl; injection hl with hl; rw [← hl]; exact HL.out
      · go_wp2
        go_ret
        exact Start.drew <| Start.bad2 _ hb1 HG.out hn fun l hl => by rw [HSP.out] at hl; injection hl with hl; rw [← hl]; exact HL.out

end Go.Proofs.YtjjgmkfkmckkoaaDoor

/- Structs built out of their fields. No program. -/
namespace Go.Proofs.YtjjgmkfkmckkoaaDoor
open Go.RowKit

theorem bfold_put (off : Nat) : ∀ (l : List Value) (s : Nat) (acc : Array Value) (i : Nat), off + s + l.length ≤ acc.size →
    ((l.zipIdx s).foldl (fun (cs : Array Value) (x : Value × Nat) => cs.setIfInBounds (off + x.2) x.1) acc)[i]? = if off + s ≤ i ∧ i < off + s + l.length then l[i - (off + s)]? else acc[i]?
  | [], s, acc, i, _ => by
    simp only [List.length_nil]
    rw [if_neg (by omega)]
    rfl
  | v :: r, s, acc, i, h => by
    simp only [List.length_cons] at h
    rw [List.zipIdx_cons, List.foldl_cons, bfold_put off r (s + 1) _ i (by simp; omega)]
    by_cases h1 : off + s = i
    · subst h1
      rw [if_neg (by omega), if_pos (by simp)]
      simp [show off + s < acc.size by omega]
    · by_cases h2 : off + (s + 1) ≤ i ∧ i < off + (s + 1) + r.length
      · rw [if_pos h2, if_pos (by simp; omega)]
        rw [show i - (off + s) = (i - (off + (s + 1))) + 1 by omega]
        simp
      · rw [if_neg h2, if_neg (by simp; omega)]
        simp [h1]
theorem bfold_put_arr (off : Nat) (c acc : Array Value) (i : Nat) (h : off + c.size ≤ acc.size) :
    (c.zipIdx.foldl (fun cs (x : Value × Nat) => cs.setIfInBounds (off + x.2) x.1) acc)[i]? = if off ≤ i ∧ i < off + c.size then c[i - off]? else acc[i]? := by
  rw [← Array.foldl_toList, Array.toList_zipIdx]
  have := bfold_put off c.toList 0 acc i (by simpa using h)
  simpa using this

theorem bfill_one {place : Nat → Option (Nat × Nat)} {cells : Array Value} {i off size : Nat} {v : Value} {rest : List (Nat × Value)} (hp : place i = some (off, size)) (hs : v.cells.size = size) (hb : off + size ≤ cells.size) :
    Instr.fill place cells ((i, v) :: rest) = Instr.fill place (v.cells.zipIdx.foldl (fun cs (x : Value × Nat) => cs.setIfInBounds (off + x.2) x.1) cells) rest := by
  have hb' : ¬ cells.size < off + size := by omega
  rw [Instr.fill, hp]
  simp [hs, hb']


theorem cells_one {v : Value} (h : v.oneCell' = true) : v.cells = #[v] := by
  cases v <;> first | rfl | (simp [Value.oneCell'] at h)
/-- The fields' places, piece for piece. -/
def PlaceOk (place : Nat → Option (Nat × Nat)) : Nat → Nat → List (List Value) → Prop
  | _, _, [] => True
  | i, o, c :: l => place i = some (o, c.length) ∧ PlaceOk place (i + 1) (o + c.length) l
/-- The fields' values and their cells. -/
def Pieces : List Value → List (List Value) → Prop
  | [], [] => True
  | v :: vs, c :: cs => v.cells = c.toArray ∧ Pieces vs cs
  | _, _ => False
theorem fill_pieces {place : Nat → Option (Nat × Nat)} : ∀ (vs : List Value) (cs : List (List Value)) (i : Nat) (pre old : List Value), Pieces vs cs → PlaceOk place i pre.length cs → old.length = cs.flatten.length →
    Instr.fill place (pre ++ old).toArray ((vs.zipIdx i).map fun x => (x.2, x.1)) = some (pre ++ cs.flatten).toArray
  | [], [], i, pre, old, _, _, hl => by
    obtain rfl : old = [] := List.eq_nil_of_length_eq_zero (by simpa using hl)
    rfl
  | [], _ :: _, _, _, _, h, _, _ => by cases h
  | _ :: _, [], _, _, _, h, _, _ => by cases h
  | v :: vs, c :: cs, i, pre, old, ⟨hv, h⟩, ⟨hp, hpl⟩, hl => by
    rw [List.flatten_cons, List.length_append] at hl
    have hs : v.cells.size = c.length := by rw [hv, List.size_toArray]
    rw [List.zipIdx_cons, List.map_cons, bfill_one hp hs (by simp; omega)]
    have he : (v.cells.zipIdx.foldl (fun cs (x : Value × Nat) => cs.setIfInBounds (pre.length + x.2) x.1) (pre ++ old).toArray) = ((pre ++ c) ++ old.drop c.length).toArray := by
      apply Array.ext_getElem?
      intro j
      rw [bfold_put_arr pre.length v.cells _ j (by rw [hs]; simp; omega), hs, hv]
      by_cases h1 : pre.length ≤ j ∧ j < pre.length + c.length
      · rw [if_pos h1, List.getElem?_toArray, List.getElem?_toArray, List.append_assoc, List.getElem?_append_right h1.1, List.getElem?_append_left (by omega)]
      · rw [if_neg h1, List.getElem?_toArray, List.getElem?_toArray]
        rcases Nat.lt_or_ge j pre.length with h2 | h2
        · rw [List.getElem?_append_left h2, List.append_assoc, List.getElem?_append_left h2]
        · rw [List.getElem?_append_right h2, List.getElem?_append_right (by simp; omega), List.getElem?_drop]
          congr 1
          simp; omega
    rw [he]
    have := fill_pieces vs cs (i + 1) (pre ++ c) (old.drop c.length) h (by rw [List.length_append]; exact hpl) (by rw [List.length_drop]; omega)
    rw [this, List.flatten_cons, List.append_assoc]

theorem built_struct {P : Program} {t : TypeId} {n : Nat} {places : List (Nat × Nat)} (hi : (P.info? t).map (fun i => (i.zero.map (fun z => z.cells.size))) = some (some n))
    (hp : ((match P.underlying t with | some (.struct fields) => fields.toList.mapM (fun f => (P.info? f.type).map fun i => (f.offset, i.size)) | _ => none)) = some places)
    {vs : List Value} {cs : List (List Value)} (h : Pieces vs cs) (hpl : PlaceOk (fun i => places.toArray[i]?) 0 0 cs) (hn : cs.flatten.length = n) : P.built t ((vs.zipIdx 0).map fun x => (x.2, x.1)) = some cs.flatten.toArray := by
  unfold Program.built
  cases hit : P.info? t with
  | none => rw [hit] at hi; cases hi
  | some it =>
    rw [hit] at hi
    cases hz : it.zero with
    | none => rw [Option.map_some, hz] at hi; simp at hi
    | some z =>
      rw [Option.map_some, hz] at hi
      simp only [Option.map_some, Option.some.injEq] at hi
      cases hu : P.underlying t with
      | none => rw [hu] at hp; cases hp
      | some d =>
        rw [hu] at hp
        cases d <;> first | (cases hp; done) | skip
        rename_i fields
        simp only at hp ⊢
        rw [hp, hz]
        have := fill_pieces (place := fun i => places.toArray[i]?) vs cs 0 [] z.cells.toList h hpl (by rw [hn]; simpa using hi)
        simpa using this
theorem run_struct {P : Program} {t : TypeId} {n : Nat} {places : List (Nat × Nat)} (hi : (P.info? t).map (fun i => (i.zero.map (fun z => z.cells.size))) = some (some n))
    (hp : ((match P.underlying t with | some (.struct fields) => fields.toList.mapM (fun f => (P.info? f.type).map fun i => (f.offset, i.size)) | _ => none)) = some places)
    {vs : List Value} {cs : List (List Value)} (h : Pieces vs cs) (hpl : PlaceOk (fun i => places.toArray[i]?) 0 0 cs) (hn : cs.flatten.length = n) (parts : Array (Nat × Value)) (hparts : parts.toList = (vs.zipIdx 0).map fun x => (x.2, x.1)) (w : World) :
    (Instr.build t parts).run P w = .ok (.agg cs.flatten.toArray) w :=
  run_build w t parts _ (by rw [hparts]; exact built_struct hi hp h hpl hn)

theorem wpList_build_ {P : Program} {ops : Array Oper} {rest : List Oper} {o : Oper} {a : Act} {w : World} {Q : Exit → Act → World → Prop} (hg : o.guard = none) (ty : TypeId) (parts : Array (Nat × Operand)) (ho : o.op = .build ty parts)
    (ps : Array (Nat × Value)) (hp : (parts.map fun (i, x) => (i, a.eval x)) = ps) (v : Value) (hb : (Instr.build ty ps).run P w = .ok v w) (h : wpList P ops Q rest (a.put o.dst v) w) : wpList P ops Q (o :: rest) a w :=
  wpList_plain hg fun _ hK => by
    unfold Oper.wp execOp
    simp only [ho, hp, Sem.run_bind, hb, Sem.run_pure, Result.andThen_ok]
    exact hK _ _ h

/-- A row of one element. -/
theorem wpList_row1 {P : Program} {ops : Array Oper} {rest : List Oper} {o : Oper} {a : Act} {w : World} {Q : Exit → Act → World → Prop} (hg : o.guard = none) (t e : TypeId) (x : Operand) (ho : o.op = .buildSlice t 1 #[(0, x)]) (hu : P.underlying t = some (.slice e))
    (v : Value) (hx : a.eval x = v) (C : List Value) (hv : v.cells = C.toArray) (hi : (P.info? e).map (fun i => (i.zero.map (fun z => z.cells.size), i.size)) = some (some C.length, C.length)) (h0 : 0 < C.length) (hn : C.length ≤ 1000)
    (h : wpList P ops Q rest (a.put o.dst (.slice (some ⟨w.heap.size, 0, none⟩) 1 1)) (w.alloc (.cells C.toArray e))) : wpList P ops Q (o :: rest) a w := by
  cases hit : P.info? e with
  | none => rw [hit] at hi; cases hi
  | some i0 =>
    rw [hit] at hi
    cases hz : i0.zero with
    | none => rw [Option.map_some, hz] at hi; simp at hi
    | some z =>
      rw [Option.map_some, hz] at hi
      simp only [Option.map_some, Option.some.injEq, Prod.mk.injEq] at hi
      obtain ⟨hz1, hz2⟩ := hi
      refine wpList_buildSlice hg t e 1 _ ho C.toArray i0 z hu hit hz (by rw [hz2]; omega) (by rw [hz2]; omega) ?_ h
      have := fill_pieces (place := fun i => some (i * i0.size, i0.size)) [v] [C] 0 [] ((Array.range (1 * i0.size)).map (z.cells[· % z.cells.size]!)).toList ⟨hv, trivial⟩ ⟨by simp [hz2], trivial⟩ (by simp [hz2])
      rw [List.nil_append, Array.toArray_toList] at this
      have e1 : (#[(0, x)].map fun (i, x) => (i, a.eval x)).toList = ([v].zipIdx 0).map fun x => (x.2, x.1) := by simp [hx]
      rw [e1, this]
      simp

end Go.Proofs.YtjjgmkfkmckkoaaDoor

/- Codec: what the readers' walks share. -/
namespace Go.Proofs.YtjjgmkfkmckkoaaDoor
open Go.RowKit Go.Maps

theorem Took.one {s : Sh} {w : World} {X : Nat → Prop} {E g : Nat} {sent : Value} {b : List UInt8} {rest : List (List UInt8)} {bad : Bool} {e : Ending} {w' : World} (hs : ∀ y, s.val [y] = y) (h1 : s.cells = 1) (h : Took s w X E g sent b rest bad e w') :
    ∃ y bad', e = .returned y ∧ y.oneCell' = true ∧ Chg (fun k => k = g) w w' ∧ Pt w' X E g sent rest bad' ∧ SOut s w' (fun b => w.heap.size ≤ b) b [y] bad bad' := by
  obtain ⟨cs, bad', rfl, hc, hp, ho⟩ := h
  obtain ⟨y, rfl⟩ : ∃ y, cs = [y] := by
    have := ho.1
    rw [h1] at this
    exact List.length_eq_one_iff.1 this
  exact ⟨y, bad', by rw [hs], ho.2.1 y (by simp), hc, hp, ho⟩
theorem Took.agg {s : Sh} {w : World} {X : Nat → Prop} {E g : Nat} {sent : Value} {b : List UInt8} {rest : List (List UInt8)} {bad : Bool} {e : Ending} {w' : World} (hs : ∀ c, s.val c = .agg c.toArray) (h : Took s w X E g sent b rest bad e w') :
    ∃ c bad', e = .returned (.agg c.toArray) ∧ (∀ v ∈ c, v.oneCell' = true) ∧ c.length = s.cells ∧ Chg (fun k => k = g) w w' ∧ Pt w' X E g sent rest bad' ∧ SOut s w' (fun b => w.heap.size ≤ b) b c bad bad' := by
  obtain ⟨cs, bad', rfl, hc, hp, ho⟩ := h
  exact ⟨cs, bad', by rw [hs], ho.2.1, ho.1, hc, hp, ho⟩
theorem Pt.parts {w : World} {X : Nat → Prop} {E g : Nat} {sent : Value} {rows : List (List UInt8)} {bad : Bool} (h : Pt w X E g sent rows bad) : ∃ v e, Blk w g 147 #[v, e] ∧ Err w (fun b => E ≤ b) sent bad e := by
  obtain ⟨_, _, _, _, _, v, e, h1, _, h3⟩ := h
  exact ⟨v, e, h1, h3.to (fun b _ hlt => ⟨hlt, rfl⟩) fun b hb _ => hb.2⟩
/-- The end of a reader. -/
theorem ReadOut.mk {fs : Fs} {w wN w' : World} {sent e : Value} {bs : List UInt8} {rows : List (List UInt8)} {C : List Value} {bad badN : Bool} {n : Nat} (hout : fs.Out wN (fun b => w.heap.size + 1 ≤ b) rows C bad badN)
    (hs : (bad = false ∧ splitB bs = some rows) ∨ (bad = true ∧ ∀ l, splitB bs = some l → l.length ≠ n)) (hn : fs.len = n) (he : Err wN (fun b => w.heap.size + 1 ≤ b) sent badN e) (hb : Below w.heap.size w wN) (hc : Chg (fun b => b = w.heap.size) wN w') :
    ReadOut (.tup fs) w sent bs (.returned (.tuple #[.agg C.toArray, e])) w' := by
  have hk : ∀ b, w.heap.size + 1 ≤ b → b < wN.heap.size → b < w'.heap.size ∧ w'.heap[b]? = wN.heap[b]? := fun b hb hlt => ⟨Nat.lt_of_lt_of_le hlt hc.size, hc.block b hlt fun e => by omega⟩
  exact ⟨C, e, badN, rfl, hb.trans (hc.below hb.size fun b h => Nat.le_of_eq h.symm), he.to hk fun b hb _ => by omega, Fs.Out.tup (n := n) (hout.to hk fun b hb _ => by omega) hs fun l x h => hn ▸ Fs.decs_len fs l x h⟩

end Go.Proofs.YtjjgmkfkmckkoaaDoor

/- Codec: a number read alone. -/
namespace Go.Proofs.YtjjgmkfkmckkoaaDoor
open Go.RowKit Go.Maps

theorem ReadOut.one {s : Sh} {w : World} {sent : Value} {b : List UInt8} {e : Ending} {w' : World} (hs : ∀ y, s.val [y] = y) (h1 : s.cells = 1) (h : ReadOut s w sent b e w') :
    ∃ y err bad, e = .returned (.tuple #[y, err]) ∧ y.oneCell' = true ∧ Below w.heap.size w w' ∧ Err w' (fun b => w.heap.size ≤ b) sent bad err ∧ SOut s w' (fun b => w.heap.size ≤ b) b [y] false bad := by
  obtain ⟨cs, err, bad, rfl, hb, he, ho⟩ := h
  obtain ⟨y, rfl⟩ : ∃ y, cs = [y] := by
    have := ho.1
    rw [h1] at this
    exact List.length_eq_one_iff.1 this
  exact ⟨y, err, bad, by rw [hs], ho.2.1 y (by simp), hb, he, ho⟩
theorem ReadOut.agg {s : Sh} {w : World} {sent : Value} {b : List UInt8} {e : Ending} {w' : World} (hs : ∀ c, s.val c = .agg c.toArray) (h : ReadOut s w sent b e w') :
    ∃ c err bad, e = .returned (.tuple #[.agg c.toArray, err]) ∧ (∀ v ∈ c, v.oneCell' = true) ∧ c.length = s.cells ∧ Below w.heap.size w w' ∧ Err w' (fun b => w.heap.size ≤ b) sent bad err ∧ SOut s w' (fun b => w.heap.size ≤ b) b c false bad := by
  obtain ⟨cs, err, bad, rfl, hb, he, ho⟩ := h
  exact ⟨cs, err, bad, by rw [hs], ho.2.1, ho.1, hb, he, ho⟩
theorem SOut.or_ {s : Sh} {w : World} {S : Nat → Prop} {b : List UInt8} {cs : List Value} {bd : Bool} (h : SOut s w S b cs false bd) (bad : Bool) : SOut s w S b cs bad (bad || bd) := by
  obtain ⟨h1, h2, h3⟩ := h
  refine ⟨h1, h2, h3.imp (fun ⟨x, e1, e2, e3⟩ => ⟨x, e1, by rw [e2, Bool.or_false], e3⟩) fun ⟨e1, e2⟩ => ⟨e1, by rw [e2, Bool.or_true]⟩⟩
/-- Parts of one row that came in. -/
theorem Pt.single {w : World} {S : Nat → Prop} {sent : Value} {A : Option Addr} {cap : Nat} {bs : List UInt8} (h : Bs w S (.slice A bs.length cap) bs) (hg : Gl w sent) :
    Pt ((w.alloc (.cells #[.slice A bs.length cap] 28)).alloc (.cells #[.slice (some ⟨w.heap.size, 0, none⟩) 1 1, .nilIface] 147)) (fun b => b = w.heap.size + 1) w.heap.size (w.heap.size + 1) sent [bs] false := by
  have hb := (Below.refl w.heap.size w).alloc (Nat.le_refl _) (.cells #[.slice A bs.length cap] 28)
  have hb2 := hb.alloc (by simp) (.cells #[.slice (some ⟨w.heap.size, 0, none⟩) 1 1, .nilIface] 147)
  have hk := Blk.new (w.alloc (.cells #[.slice A bs.length cap] 28)) 147 #[.slice (some ⟨w.heap.size, 0, none⟩) 1 1, .nilIface]
  rw [show (w.alloc (.cells #[.slice A bs.length cap] 28)).heap.size = w.heap.size + 1 by simp] at hk
  have hlt := hg.lt
  have hr := Cs.of_new w 28 (size := 1) 1 (cs := [.slice A bs.length cap]) rfl (by simp only [maxLen]; decide)
  refine ⟨hg.below hb2, fun h => by omega, rfl, fun b h => by rw [h]; simp, by simp; omega, _, _, hk, ?_, .inl ⟨rfl, rfl⟩⟩
  refine ⟨[.slice A bs.length cap], (hr.sub (T := fun b => ¬ b = w.heap.size + 1) fun b hb _ => by omega).below ((Below.refl _ _).alloc (Nat.le_refl _) _), fun i x u h1 h2 => ?_⟩
  cases i with
  | zero =>
    simp only [List.getElem?_cons_zero, Option.some.injEq] at h1 h2
    subst h1 h2
    exact ⟨(h.below hb2).1.sub' h.1 fun b _ hlt => by omega, h.2⟩
  | succ i => simp at h1

theorem ReadOut.single {s : Sh} {w w1 : World} {sent y e9 : Value} {bs : List UInt8} {o1 o2 : Obj} {bad : Bool} {k : Nat} (hs : ∀ y, s.val [y] = y) (hc : Chg (fun k => k = w.heap.size + 1) ((w.alloc o1).alloc o2) w1)
    (he : Err w1 (fun b => w.heap.size ≤ b) sent bad e9) (ho : SOut s w1 (fun b => ((w.alloc o1).alloc o2).heap.size ≤ b) bs [y] false bad) : ReadOut s w sent bs (.returned (.tuple #[y, e9])) (w1.drewN k) := by
  have hb := ((Below.refl w.heap.size w).alloc (Nat.le_refl _) o1).alloc (by simp) o2
  refine ⟨[y], e9, bad, by rw [hs], below_drewN (hb.trans (hc.below hb.size fun b h => by omega)) k, he.to (fun b _ hlt => ⟨hlt, rfl⟩) fun b hb _ => hb, ho.to (fun b _ hlt => ⟨hlt, rfl⟩) fun b hb' _ => Nat.le_trans hb.size hb'⟩

set_option maxRecDepth 100000 in
theorem readNum_any (w : World) {S : Nat → Prop} {v sent : Value} {bs : List UInt8} (h : Bs w S v bs) (_hlen : bs.length ≤ 262144) (hg : Gl w sent) :
    Calls Tryd.prog 85 #[v] w (ReadOut i64 w sent bs) := by
  obtain ⟨A, cap, rfl⟩ := h.form
  have H := Lib.hid (int_any _ (Pt.single h hg)); clear h hg
  go_enter Tryd.func85, Tryd.ntmps85
  go_wp2_with fail
  refine H.out.mono ?_
  rintro e w1 ht
  obtain ⟨y, bad, rfl, h1, hc, hp, ho⟩ := ht.one (fun _ => rfl) rfl
  obtain ⟨v9, e9, hblk, herr⟩ := hp.parts
  have hcc := hblk.cell
  have HO := Lib.hid ho
  have HE := Lib.hid herr
  clear ho herr hp H ht hblk
  go_wp2_with fail
  go_quiet (fail)
  go_wp2_with fail
  go_ret2
  exact ReadOut.single (fun _ => rfl) hc HE.out HO.out

end Go.Proofs.YtjjgmkfkmckkoaaDoor

/- Codec: an error's number (told). -/
namespace Go.Proofs.YtjjgmkfkmckkoaaDoor
open Go.RowKit

/-- The package's variables, as they are laid. -/
def Pk (w : World) (sent : Value) : Prop := Gl w sent ∧ ∃ (a b : Addr) (ca cb : Array Value) (ta tb : TypeId), sent = .iface 205 (.pointer (some a)) ∧ a ≠ b ∧ w.heap[a.block]? = some (.cells ca ta (0, 0)) ∧ w.heap[b.block]? = some (.cells cb tb (0, 0)) ∧
  w.cell? ⟨0, 0, none⟩ = some (.iface 205 (.pointer (some b))) ∧ w.cell? ⟨2, 0, none⟩ = some (.iface 190 (.agg #[.pointer (some ⟨nG, 135, none⟩)]))
theorem cell_low {w w' : World} {k : Nat} {v : Value} (h : w.cell? ⟨k, 0, none⟩ = some v) (hb : Below w.heap.size w w') : w'.cell? ⟨k, 0, none⟩ = some v := by
  have hlt : k < w.heap.size := by
    rcases Nat.lt_or_ge k w.heap.size with h1 | h1
    · exact h1
    · simp only [World.cell?] at h; rw [Array.getElem?_eq_none h1] at h; cases h
  exact (World.cell?_of_block (a := ⟨k, 0, none⟩) (hb.block k hlt)).trans h
theorem heap_low {w w' : World} {k : Nat} {o : Obj} (h : w.heap[k]? = some o) (hb : Below w.heap.size w w') : w'.heap[k]? = some o := by
  have hlt : k < w.heap.size := by
    rcases Nat.lt_or_ge k w.heap.size with h1 | h1
    · exact h1
    · rw [Array.getElem?_eq_none h1] at h; cases h
  exact (hb.block k hlt).trans h
theorem Pk.below {w w' : World} {sent : Value} (h : Pk w sent) (hb : Below w.heap.size w w') : Pk w' sent := by
  obtain ⟨h1, a, b, ca, cb, ta, tb, h2, h3, h4, h5, h6, h7⟩ := h
  exact ⟨h1.below hb, a, b, ca, cb, ta, tb, h2, h3, heap_low h4 hb, heap_low h5 hb, cell_low h6 hb, cell_low h7 hb⟩

/-- An error of this package; r: is it of too many bytes? -/
def Wr (w : World) (sent : Value) (e : Value) (r : Bool) : Prop := ∃ (g n : Nat) (s : Value), e = .iface 133 (.pointer (some ⟨g, 0, none⟩)) ∧ Links w s e n ∧ (if r then w.cell? ⟨0, 0, none⟩ = some s else s = sent)
theorem Links.low {w w' : World} {s e : Value} {n : Nat} (h : Links w s e n) (hb : Below w.heap.size w w') : Links w' s e n := by
  induction h with
  | last => exact .last
  | more h1 _ ih => exact .more (h1.below hb h1.lt) ih
theorem Wr.low {w w' : World} {sent e : Value} {r : Bool} (h : Wr w sent e r) (hb : Below w.heap.size w w') : Wr w' sent e r := by
  obtain ⟨g, n, s, h1, h2, h3⟩ := h
  refine ⟨g, n, s, h1, h2.low hb, ?_⟩
  cases r
  · exact h3
  · exact cell_low h3 hb
theorem Wr.of_chain {w : World} {S : Nat → Prop} {sent e : Value} (h : Chain w S sent e) : Wr w sent e false := by
  obtain ⟨g, rfl⟩ := h.form
  obtain ⟨n, hl⟩ := Links.of_chain h
  exact ⟨g, n + 1, sent, rfl, hl, rfl⟩
theorem Wr.fresh {w : World} {sent v : Value} (h : w.cell? ⟨0, 0, none⟩ = some v) (what : Value) : Wr (w.alloc (.cells #[what, v] 137)) sent (.iface 133 (.pointer (some ⟨w.heap.size, 0, none⟩))) true :=
  ⟨w.heap.size, 1, v, rfl, .more (Blk.new w _ _) .last, cell_low h ((Below.refl _ w).alloc (Nat.le_refl _) _)⟩

set_option maxRecDepth 1000000 in
theorem told_any (w : World) {sent e : Value} {r : Bool} (hp : Pk w sent) (he : Wr w sent e r) :
    Calls Tryd.prog 81 #[e] w fun en w' => en = .returned (.int .i64 (if r then 4 else 5)) ∧ Below w.heap.size w w' := by
  have hal := (Below.refl w.heap.size w).alloc (Nat.le_refl _) (.cells #[.pointer none] 133)
  have hp0 := hp.below hal
  have he0 := he.low hal
  obtain ⟨hgl, a, b, ca, cb, ta, tb, hse, hab, ha, hb, hcb, hty⟩ := hp0
  obtain ⟨g, n, s, rfl, hl, hs⟩ := he0
  have hcb0 : w.cell? ⟨0, 0, none⟩ = some (.iface 205 (.pointer (some b))) := by
    obtain ⟨_, a', b', ca', cb', ta', tb', _, _, _, _, h6, _⟩ := hp
    have := cell_low h6 hal
    rw [hcb] at this
    injection this with this
    injection this with _ h1
    injection h1 with h1
    injection h1 with h1
    rw [h1]; exact h6
  have hlt0 : 0 < w.heap.size := by
    rcases Nat.lt_or_ge 0 w.heap.size with h1 | h1
    · exact h1
    · simp only [World.cell?] at hcb0; rw [Array.getElem?_eq_none h1] at hcb0; cases hcb0
  have HAL := Lib.hid hal
  have HTY := Lib.hid hty
  cases r
  · simp only [Bool.false_eq_true, if_false] at hs
    subst hs
    subst hse
    have HI := Lib.hid (is_any a b ca cb ta tb ha hb hl false (decide_eq_false hab).symm)
    clear hp he hgl ha hb hl hal hcb hty
    go_enter Tryd.func81, Tryd.ntmps81
    go_wp2_with fail
    refine HI.out.mono ?_
    rintro e w1 ⟨rfl, hw1⟩
    obtain rfl := hw1
    go_wp2_with fail
    refine (as_hit ⟨g, 0, none⟩ ⟨w.heap.size, 0, none⟩ (.pointer none) _ HTY.out (by simp) (by simp)).mono ?_
    rintro e w2 ⟨rfl, hw2⟩
    have hb2 : Below w.heap.size w w2 := by
      subst hw2
      exact (((((HAL.out.alloc HAL.out.size _).alloc (by simp; omega) _).alloc (by simp; omega) _).alloc (by simp; omega) _)).setCell (by simp) _
    clear hw2
    go_wp2_with fail
    go_ret
    exact ⟨rfl, hb2⟩
  · simp only [if_true] at hs
    rw [hcb] at hs
    injection hs with hs
    subst hs
    have HI := Lib.hid (is_any b b cb cb tb tb hb hb hl true (decide_eq_true rfl).symm)
    clear hp he hgl ha hb hl hal hcb hty
    go_enter Tryd.func81, Tryd.ntmps81
    go_wp2_with fail
    refine HI.out.mono ?_
    rintro e w1 ⟨rfl, hw1⟩
    obtain rfl := hw1
    go_wp2_with fail
    go_ret
    exact ⟨rfl, HAL.out⟩

theorem Effects.world {P : Program} {ops : Array Oper} {Q : Exit → Act → World → Prop} {S : World → Prop} {E T : List Oper} {a : Act} {F : World → Prop} (h : ∀ W, F W → Effects P ops Q S E T a W) {w : World} (hF : F w) : Effects P ops Q S E T a w := h w hF
/-- What a Read answers. -/
def FaceOut (s : Sh) (w : World) (bs : List UInt8) (e : Ending) (w' : World) : Prop :=
  Below w.heap.size w w' ∧ ∃ (cs : List Value) (n : Int), e = .returned (.tuple #[.agg cs.toArray, .int .i64 n]) ∧ cs.length = s.cells ∧ (∀ v ∈ cs, v.oneCell' = true) ∧
    ((262144 < bs.length ∧ n = 4) ∨ (bs.length ≤ 262144 ∧ ((∃ x, s.dec bs = some x ∧ n = 0 ∧ s.rep w' (fun b => w.heap.size ≤ b) x cs) ∨ (s.dec bs = none ∧ n = 5))))

end Go.Proofs.YtjjgmkfkmckkoaaDoor

/- Codec: lists read: what has been made so far. -/
namespace Go.Proofs.YtjjgmkfkmckkoaaDoor
open Go.RowKit Go.Maps

theorem Pt.grow {w w' : World} {X M Y : Nat → Prop} {E g : Nat} {sent : Value} {rows : List (List UInt8)} {bad : Bool} (h : Pt w X E g sent rows bad) (hc : Chg M w w') (hM : ∀ b, M b → X b ∧ b ≠ g)
    (hY : ∀ b, Y b → X b ∨ (w.heap.size ≤ b ∧ b < w'.heap.size)) (hg : Y g) : Pt w' Y E g sent rows bad := by
  obtain ⟨hg', hn, hx, hl, hE, v, e, h1, h2, h3⟩ := h
  have hs : ∀ b, ¬ X b → b < w.heap.size → ¬ Y b := fun b hb hlt hy => (hY b hy).elim hb fun h => by omega
  exact ⟨hg'.chg hc fun h => hn (hM _ h).1, hs _ hn hg'.lt, hg, fun b h => (hY b h).elim (fun h => Nat.lt_of_lt_of_le (hl b h) hc.size) fun h => h.2, Nat.le_trans hE hc.size, v, e, h1.chg hc fun h => (hM _ h).2 rfl,
    (h2.subs (T := fun b => ¬ Y b ∧ ¬ M b) fun b hb hlt => ⟨hs b hb hlt, fun h => hb (hM b h).1⟩).chg hc (fun b hb => hb.2) |>.subs fun b hb _ => hb.1,
    h3.to (fun b hb hlt => ⟨Nat.lt_of_lt_of_le hlt hc.size, hc.block b hlt fun h => hb.1 (hM _ h).1⟩) fun b hb hlt => ⟨hs b hb.1 hlt, hb.2⟩⟩
/-- Elements that were read: their cells. -/
def LOut (s : Sh) (w : World) (S : Nat → Prop) (l : List (List UInt8)) (css : List (List Value)) (bad bad' : Bool) : Prop :=
  css.length = l.length ∧ (∀ c ∈ css, c.length = s.cells) ∧ ((∃ xs, allO (l.map s.dec) = some xs ∧ bad' = bad ∧ Two (s.rep w S) xs css) ∨ (allO (l.map s.dec) = none ∧ bad' = true))
theorem LOut.nil_ (s : Sh) (w : World) (S : Nat → Prop) (bad : Bool) : LOut s w S [] [] bad bad := ⟨rfl, fun c h => (by cases h), .inl ⟨[], rfl, rfl, .nil⟩⟩
theorem allO_snoc {α : Type} (l : List (Option α)) (o : Option α) : allO (l ++ [o]) = match allO l, o with | some r, some a => some (r ++ [a]) | _, _ => none := by
  induction l with
  | nil => cases o <;> rfl
  | cons p l ih =>
    simp only [List.cons_append, allO, ih]
    cases p with
    | none => cases allO l <;> cases o <;> rfl
    | some b => cases allO l <;> cases o <;> rfl
theorem LOut.snoc {s : Sh} {w w' : World} {S S' : Nat → Prop} {l : List (List UInt8)} {css : List (List Value)} {x : List UInt8} {c : List Value} {bad b1 b2 : Bool} (h : LOut s w S l css bad b1) (k : SOut s w' S' x c b1 b2)
    (hk : ∀ b, S b → b < w.heap.size → b < w'.heap.size ∧ w'.heap[b]? = w.heap[b]?) (hs : ∀ b, S b → b < w.heap.size → S' b) : LOut s w' S' (l ++ [x]) (css ++ [c]) bad b2 := by
  obtain ⟨h1, h2, h3⟩ := h
  obtain ⟨k1, k2, k3⟩ := k
  refine ⟨by simp [h1], fun d hd => (List.mem_append.1 hd).elim (h2 d) fun hd => by obtain rfl := List.mem_singleton.1 hd; exact k1, ?_⟩
  rw [List.map_append, List.map_cons, List.map_nil, allO_snoc]
  rcases h3 with ⟨xs, e1, e2, e3⟩ | ⟨e1, e2⟩ <;> rcases k3 with ⟨y, f1, f2, f3⟩ | ⟨f1, f2⟩ <;> rw [e1, f1]
  · exact .inl ⟨xs ++ [y], rfl, by rw [f2, e2], (e3.map fun a b h => Sh.rep_to hk hs s a b h).append (.cons f3 .nil)⟩
  · exact .inr ⟨rfl, f2⟩
  · exact .inr ⟨rfl, by rw [f2, e2]⟩
  · exact .inr ⟨rfl, f2⟩
theorem LOut.to {s : Sh} {w w' : World} {S S' : Nat → Prop} {l : List (List UInt8)} {css : List (List Value)} {bad b1 : Bool} (h : LOut s w S l css bad b1)
    (hk : ∀ b, S b → b < w.heap.size → b < w'.heap.size ∧ w'.heap[b]? = w.heap[b]?) (hs : ∀ b, S b → b < w.heap.size → S' b) : LOut s w' S' l css bad b1 :=
  ⟨h.1, h.2.1, h.2.2.imp (fun ⟨xs, e1, e2, e3⟩ => ⟨xs, e1, e2, e3.map fun a b h => Sh.rep_to hk hs s a b h⟩) id⟩
/-- The list that was read. -/
theorem LOut.list {s : Sh} {w : World} {S : Nat → Prop} {x : List UInt8} {l : List (List UInt8)} {css : List (List Value)} {bad b1 : Bool} {v : Value} (h : LOut s w S l css bad b1) (hsp : splitB x = some l) (hv : Cs w S s.cells v l.length css.flatten) : SOut (.list s) w S x [v] bad b1 := by
  obtain ⟨h1, _, h3⟩ := h
  obtain ⟨A, c, rfl⟩ := hv.form
  have hd : (Sh.list s).dec x = (match splitB x with | none => none | some l => allO (l.map s.dec)) := rfl
  refine ⟨rfl, fun u hu => by obtain rfl := List.mem_singleton.1 hu; rfl, ?_⟩
  rw [hd, hsp]
  refine h3.imp (fun ⟨xs, e1, e2, e3⟩ => ⟨xs, e1, e2, _, css, rfl, ?_, e3⟩) id
  have : xs.length = l.length := by rw [e3.length, h1]
  show Cs w S s.cells _ (List.length (α := s.El) xs) _
  rw [this]
  exact hv
theorem SOut.noList {s : Sh} {w : World} {S : Nat → Prop} {x : List UInt8} {v : Value} {bad : Bool} (hsp : splitB x = none) (hv : v.oneCell' = true) : SOut (.list s) w S x [v] bad true := by
  have hd : (Sh.list s).dec x = (match splitB x with | none => none | some l => allO (l.map s.dec)) := rfl
  refine ⟨rfl, fun u hu => by obtain rfl := List.mem_singleton.1 hu; exact hv, .inr ⟨?_, rfl⟩⟩
  rw [hd, hsp]
theorem Own.tail_ {w : World} {e : TypeId} {size n : Nat} {v : Value} {xs : List Value} (h : Own w e size v n xs) : xs.length = n * size := h.1

/-- A list half read: o holds the elements so far. -/
def AllI (T : TypeId) (size : Nat) (s : Sh) (w wS : World) (X : Nat → Prop) (E g : Nat) (sent : Value) (rows : List (List UInt8)) (bad : Bool) (l : List (List UInt8)) (o : Value) (k : Nat) (wr : World) : Prop :=
  ∃ css bk, Own wr T size o k css.flatten ∧ (∀ b, o.ownBlock = some b → wS.heap.size ≤ b) ∧ LOut s wr (fun b => w.heap.size ≤ b ∧ o.ownBlock ≠ some b) (l.take k) css bad bk ∧ Pt wr (fun b => X b ∨ o.ownBlock = some b) E g sent rows bk ∧ Chg (fun b => b = g) wS wr
theorem AllI.start {T : TypeId} {size : Nat} {s : Sh} {w wS : World} {X : Nat → Prop} {E g : Nat} {sent : Value} {rows : List (List UInt8)} {bad : Bool} {l : List (List UInt8)} (hp : Pt wS X E g sent rows bad) : AllI T size s w wS X E g sent rows bad l (.slice none 0 0) 0 wS :=
  ⟨[], bad, Own.nil_ _ _ _, fun b hb => by simp [Value.ownBlock] at hb, LOut.nil_ _ _ _ _, hp.less (fun b h => h.elim id fun h => by simp [Value.ownBlock] at h) (.inl hp.2.2.1), Chg.refl _ _⟩
theorem AllI.step {T : TypeId} {size : Nat} {s : Sh} {w wS wr w3 wb w6 : World} {X : Nat → Prop} {E g k : Nat} {sent o o' : Value} {rows l : List (List UInt8)} {bad bk b2 : Bool} {css : List (List Value)} {y : List UInt8} {C : List Value} {ob : Obj}
    (hgw : g < w.heap.size) (hwS : w.heap.size ≤ wS.heap.size) (hown : Own wr T size o k css.flatten) (hob : ∀ b, o.ownBlock = some b → wS.heap.size ≤ b) (hlo : LOut s wr (fun b => w.heap.size ≤ b ∧ o.ownBlock ≠ some b) (l.take k) css bad bk) (hch : Chg (fun b => b = g) wS wr)
    (hb3 : Below wr.heap.size wr w3) (ho : SOut s w3 (fun b => wr.heap.size ≤ b) y C bk b2) (hcb : Chg (fun b => b = g) w3 wb) (hpb : Pt wb (fun b => X b ∨ o.ownBlock = some b) E g sent rows b2) (hky : l.take (k + 1) = l.take k ++ [y])
    (ho6 : Own w6 T size o' (k + 1) (css.flatten ++ C)) (hc6 : Chg (fun b => o.ownBlock = some b) (wb.alloc ob) w6) (hat : o'.ownBlock = o.ownBlock ∨ o'.ownBlock = some (wb.alloc ob).heap.size) : AllI T size s w wS X E g sent rows bad l o' (k + 1) w6 := by
  have hal := (Below.refl wb.heap.size wb).alloc (Nat.le_refl _) ob
  have z1 := hch.size
  have z2 := hb3.size
  have z3 := hcb.size
  have z4 := hal.size
  have z5 := hc6.size
  have hol : ∀ b, o.ownBlock = some b → b < wr.heap.size := fun b hb => own_lt hown hb
  have hgX : X g := hpb.2.2.1.elim id fun h => absurd (hob g h) (by omega)
  have same : ∀ b, b < w3.heap.size → b ≠ g → o.ownBlock ≠ some b → w6.heap[b]? = w3.heap[b]? := fun b hb hg hne =>
    (hc6.block b (by omega) hne).trans ((hal.block b (by omega)).trans (hcb.block b hb hg))
  have hnew : ∀ b, b < w3.heap.size → o.ownBlock ≠ some b → o'.ownBlock ≠ some b := fun b hb hne e => by
    rcases hat with h | h
    · exact hne (h ▸ e)
    · rw [h] at e; injection e with e; omega
  refine ⟨css ++ [C], b2, by rw [List.flatten_append]; simpa using ho6, fun b hb => ?_, ?_, ?_, ?_⟩
  · rcases hat with h | h
    · exact hob b (h ▸ hb)
    · rw [h] at hb; injection hb with hb; omega
  · rw [hky]
    refine hlo.snoc (ho.to (w' := w6) (S' := fun b => w.heap.size ≤ b ∧ o'.ownBlock ≠ some b) (fun b hb hlt => ⟨by omega, same b hlt (by omega) fun e => by have := hol b e; omega⟩) fun b hb hlt => ⟨by omega, hnew b hlt fun e => by have := hol b e; omega⟩)
      (fun b hb hlt => ⟨by omega, (same b (by omega) (by have := hb.1; omega) hb.2).trans (hb3.block b hlt)⟩) fun b hb hlt => ⟨hb.1, hnew b (by omega) hb.2⟩
  · refine (hpb.below hal).grow hc6 (fun b hb => ⟨.inr hb, fun e => by have := hob b hb; omega⟩) (fun b hb => ?_) (.inl hgX)
    rcases hb with hb | hb
    · exact .inl (.inl hb)
    · rcases hat with h | h
      · exact .inl (.inr (h ▸ hb))
      · have := own_lt ho6 hb
        rw [h] at hb; injection hb with hb
        exact .inr ⟨by omega, by omega⟩
  · have h1 := hch.trans (Chg.of_below hb3 fun b => b = g) fun b h => .inl h
    have h2 := h1.trans hcb fun b h => .inl h
    exact (h2.alloc ob).trans hc6 fun b h => .inr (hob b h)
/-- All were read. -/
theorem AllI.out {T : TypeId} {size : Nat} {s : Sh} {w wS wr : World} {X : Nat → Prop} {E g : Nat} {sent o : Value} {x : List UInt8} {rows l : List (List UInt8)} {bad : Bool} (h : AllI T size s w wS X E g sent rows bad l o l.length wr) (hsz : s.cells = size) (hsp : splitB x = some l) (hval : ∀ y, (Sh.list s).val [y] = y)
    (hgX : X g) (hc : Chg (fun b => b = g) w wS) : Took (.list s) w X E g sent x rows bad (.returned o) wr := by
  obtain ⟨css, bk, hown, hob, hlo, hpt, hch⟩ := h
  subst hsz
  rw [List.take_length] at hlo
  have hlo2 := hlo.to (w' := wr) (S' := fun b => w.heap.size ≤ b) (fun b _ hlt => ⟨hlt, rfl⟩) fun b hb _ => hb.1
  have := hc.size
  exact ⟨[o], bk, by rw [hval], hc.trans hch fun b h => .inl h, hpt.less (fun b h => .inl h) hgX, hlo2.list hsp (Cs.of_own hown fun k hk => Nat.le_trans this (hob k hk))⟩

end Go.Proofs.YtjjgmkfkmckkoaaDoor

/- Codec: all[int]. -/
namespace Go.Proofs.YtjjgmkfkmckkoaaDoor
open Go.RowKit Go.Maps

theorem size_allInt_any : (Tryd.prog.info? 3).map (·.size) = some 1 := by kernel_rfl
theorem sizes_allInt_any : (Tryd.prog.info? 3).map (fun i => (i.zero.map (fun z => z.cells.size), i.size)) = some (some 1, 1) := by kernel_rfl
theorem info_allInt_any : (Tryd.prog.info? 3).map (fun i => (i.zero, i.size, i.bytes)) = some (some (.int .i64 0), 1, 8) := by kernel_rfl
set_option maxHeartbeats 8000000 in
set_option maxRecDepth 100000 in
theorem allInt_any (w : World) {X : Nat → Prop} {E g : Nat} {sent : Value} {x : List UInt8} {rows : List (List UInt8)} {bad : Bool} (h : Pt w X E g sent (x :: rows) bad) (hxl : x.length ≤ 262144) :
    Calls Tryd.prog 84 #[.pointer (some ⟨g, 0, none⟩), .func (Fn.func 85) #[] #[]] w (Took (.list i64) w X E g sent x rows bad) := by
  have hgx := h.2.2.1
  have hgw := h.lt
  have hEw := h.2.2.2.2.1
  have HGX := Lib.hid hgx
  have HX1 := Lib.hid (show ∀ b, X b → b < w.heap.size from h.2.2.2.1)
  have H := Lib.hid (next_any _ h)
  clear h hgx
  go_enter Tryd.func84, Tryd.ntmps84
  go_wp2_with fail
  refine H.out.mono ?_
  rintro e w1 ⟨v1, rfl, hb1, hc1, hp1⟩
  have HSP := Lib.hid (split_any w1 hb1 (by omega))
  have hz1 := hc1.size
  have HP1 := Lib.hid hp1
  have HC1 := Lib.hid hc1
  obtain ⟨A1, c1, rfl⟩ := hb1.form
  clear hb1 hp1 hc1 H
  go_wp2_with fail
  refine HSP.out.mono ?_
  rintro e w2 ⟨hb2, ⟨hno, rfl⟩ | ⟨v2, l, hsp, rfl, hbss⟩⟩
  · have HNO := Lib.hid hno; clear hno
    have hp2 := HP1.out.below hb2
    obtain ⟨⟨sa, rfl⟩, hgl⟩ := hp2.1
    have hgl : w2.cell? ⟨gF, 0, none⟩ = some _ := hgl
    unfold gF at hgl
    have hlx := hp2.2.2.2.1
    have hE2 := hp2.2.2.2.2.1
    have hal := (Below.refl w2.heap.size w2).alloc (Nat.le_refl _) (.cells #[.string ⟨#[97, 32, 108, 105, 115, 116]⟩, .iface 205 (.pointer (some sa))] 137)
    have HBAD := Lib.hid (bad_any _ (hp2.below hal) (Chain.fresh _ ⟨fun h => absurd (hlx _ h) (Nat.lt_irrefl _), hE2⟩))
    have HC2 := Lib.hid (HC1.out.trans (Chg.of_below hb2 fun k => k = g) fun b h => .inl h)
    clear hp2 hlx hal hE2 hb2 HP1 HC1 HSP
    go_wp2_with fail
    refine HBAD.out.mono ?_
    rintro e w3 ⟨rfl, hc3, hp3⟩
    have HP3 := Lib.hid hp3
    have HC3 := Lib.hid hc3
    clear hp3 hc3 HBAD
    go_wp2_with fail
    refine wp_loop_rounds 1 ?_
    rw [rounds_succ]
    go_wp2
    go_ret
    exact ⟨[.slice none 0 0], true, rfl, (HC2.out.alloc _).trans HC3.out fun b h => .inl h, HP3.out, SOut.noList HNO.out rfl⟩
  · have hrl : ∀ y ∈ l, y.length ≤ 262144 := fun y hy => Nat.le_trans (joinP_mem_le hsp y hy) hxl
    have hll : l.length ≤ 32768 := by
      have h1 := splitB_back hsp
      have h2 := joinP_count l
      rw [← h1, joinB_length] at hxl
      omega
    obtain ⟨A2, c2, rfl⟩ := hbss.form
    have HROWS := Lib.hid (((hbss.read fun y hy => by have := hrl y hy; omega).lt_ (T := fun b => w1.heap.size ≤ b) fun b h => h.elim id id).subs (T := fun b => b ≠ g) fun b hb _ => by have := hb.1; omega)
    have HP2 := Lib.hid (HP1.out.below hb2)
    have HC2 := Lib.hid (HC1.out.trans (Chg.of_below hb2 fun k => k = g) fun b h => .inl h)
    have HSPL := Lib.hid hsp
    have HRL := Lib.hid hrl
    have hwS : w.heap.size ≤ w2.heap.size := Nat.le_trans hz1 hb2.size
    clear hbss hsp hrl hb2 HP1 HC1 HSP hxl
    go_wp2_with fail
    go_loopw [7, 28] (fun o i wr => ∃ k : Nat, k ≤ l.length ∧ i = .int .i64 k ∧ AllI 3 1 i64 w w2 X E g sent rows bad l o k wr) (fun _ i _ => l.length - (intOf i).toNat)
    case atStart => exact ⟨0, Nat.zero_le _, rfl, AllI.start HP2.out⟩
    case round =>
      obtain ⟨k, hk, rfl, hI⟩ := hrel
      by_cases hlt : k < l.length
      · obtain ⟨css, bk, hown, hob, hlo, hpt, hch⟩ := hI
        obtain ⟨ba, oa, ua, rfl, hca, hua, _, hSb⟩ := (HROWS.out.chg hch (fun b hb h => hb h)).at_ hlt
        have htk : l.take (k + 1) = l.take k ++ [l[k]] := List.take_succ_eq_append_getElem hlt
        have hyl := HRL.out l[k] (List.getElem_mem hlt)
        obtain ⟨y, hy⟩ : ∃ y, y = l[k] := ⟨_, rfl⟩
        rw [← hy] at hua htk hyl
        have HR := Lib.hid (readNum_any wr hua hyl hpt.1)
        obtain ⟨Ay, cy, rfl⟩ := hua.form
        obtain ⟨Ao, co, rfl⟩ := hown.form
        have HOWN := Lib.hid hown
        have HOB := Lib.hid hob
        have HLO := Lib.hid hlo
        have HPT := Lib.hid hpt
        have HCH := Lib.hid hch
        have HTK := Lib.hid htk
        have H63 := Lib.hid (show k + 1 ≤ maxLen ∧ (k + 1) * 8 ≤ 140737488355328 from ⟨by simp only [maxLen]; omega, by omega⟩)
        have hzr := hch.size
        clear hown hob hlo hpt hch htk hy hua hyl
        go_wp2_with fail
        refine HR.out.mono ?_
        rintro e w3 hro
        obtain ⟨y0, err, bd, rfl, h1, hb3, he, ho⟩ := hro.one (fun _ => rfl) rfl
        have HY1 := Lib.hid h1
        have H1 := Lib.hid (show ∀ u ∈ [y0], u.oneCell' = true from fun u hu => by obtain rfl := List.mem_singleton.1 hu; exact h1)
        have HI2 := Lib.hid sizes_allInt_any
        clear h1
        have HB3 := Lib.hid hb3
        have HP3 := Lib.hid (HPT.out.below hb3)
        have HO := Lib.hid (ho.or_ bk)
        clear hro hb3 ho HR
        rcases he with ⟨rfl, rfl⟩ | ⟨rfl, hcn⟩
        · skip
          have HO2 := Lib.hid (show ∀ ob, Own (w3.alloc ob) 3 1 (.slice Ao k co) k css.flatten from fun ob => own_keep HOWN.out fun b hb => (by have h1 := own_lt HOWN.out hb; have h2 := HOB.out b hb; have h3 := HB3.out.size; exact (Below.heap_alloc w3 ob b (Nat.lt_of_lt_of_le h1 h3)).trans (HB3.out.block b h1)))
          have HS2 := Lib.hid (Cs.of_new w3 3 (size := 1) 1 (cs := [y0]) rfl (by simp only [maxLen]; decide))
          go_wp2_with (first
            | (refine wpList_row1 rfl 40 3 _ rfl Tryd.underlying40 y0 rfl [y0] (cells_one HY1.out) HI2.out (by simp) (by simp) ?_)
            | (at_builtin; refine wpList_app _ rfl _ _ _ rfl Tryd.underlying40 info_allInt_any rfl (by decide) (HO2.out _) rfl HS2.out rfl H1.out H63.out.1 H63.out.2 ?_; intro v6 w6 ho6 hc6 hnil6 hat6; clear hnil6; have HO6 := Lib.hid ho6; clear ho6; have HC6 := Lib.hid hc6; clear hc6; have HAT6 := Lib.hid hat6; clear hat6))
          refine ⟨⟨k + 1, by omega, by push_cast; rfl, AllI.step hgw hwS HOWN.out HOB.out HLO.out HCH.out HB3.out (by have := HO.out; rw [Bool.or_false] at this; exact this) (Chg.refl (fun b => b = g) w3) HP3.out HTK.out HO6.out HC6.out HAT6.out⟩, ?_⟩
          simp only [intOf]; omega
        · skip
          obtain ⟨gw, rfl⟩ := hcn.form
          have HCN := Lib.hid hcn; clear hcn
          have hp4 := HP3.out
          have hlx := hp4.2.2.2.1
          have hE4 := hp4.2.2.2.2.1
          have hz4 := Nat.le_refl w3.heap.size
          have hz3 := HB3.out.size
          have hal := (Below.refl w3.heap.size w3).alloc (Nat.le_refl _) (.cells #[.string ⟨#[105, 110, 32, 97, 32, 108, 105, 115, 116]⟩, .iface 133 (.pointer (some ⟨gw, 0, none⟩))] 137)
          have hcn4 := (HCN.out.to (w' := w3) (S' := fun b => ¬ (X b ∨ (Value.slice Ao k co).ownBlock = some b) ∧ E ≤ b) (fun b hb hlt => ⟨hlt, rfl⟩) fun b hb hlt => ⟨fun h => h.elim (fun h => by have := HX1.out b h; omega) fun h => by have := own_lt HOWN.out h; omega, by omega⟩)
          have HBAD := Lib.hid (bad_any _ (hp4.below hal) (hcn4.freshMore _ ⟨fun h => absurd (hlx _ h) (Nat.lt_irrefl _), hE4⟩))
          clear hp4 hlx hal hcn4 hE4
          go_wp2_with fail
          refine HBAD.out.mono ?_
          rintro e w5 ⟨rfl, hc5, hp5⟩
          have HP5 := Lib.hid hp5
          have HC35 := Lib.hid (show Chg (fun b => b = g) w3 w5 from ((Chg.refl (fun b => b = g) w3).alloc _).trans hc5 fun b h => .inl h)
          clear hc5 hp5 HBAD
          have HO2 := Lib.hid (show ∀ ob, Own (w5.alloc ob) 3 1 (.slice Ao k co) k css.flatten from fun ob => own_keep HOWN.out fun b hb => (by have h1 := own_lt HOWN.out hb; have h2 := HOB.out b hb; have h3 := HB3.out.size; exact (Below.heap_alloc w5 ob b (Nat.lt_of_lt_of_le (Nat.lt_of_lt_of_le h1 h3) HC35.out.size)).trans ((HC35.out.block b (Nat.lt_of_lt_of_le h1 h3) (fun e => by omega)).trans (HB3.out.block b h1))))
          have HS2 := Lib.hid (Cs.of_new w5 3 (size := 1) 1 (cs := [y0]) rfl (by simp only [maxLen]; decide))
          go_wp2_with (first
            | (refine wpList_row1 rfl 40 3 _ rfl Tryd.underlying40 y0 rfl [y0] (cells_one HY1.out) HI2.out (by simp) (by simp) ?_)
            | (at_builtin; refine wpList_app _ rfl _ _ _ rfl Tryd.underlying40 info_allInt_any rfl (by decide) (HO2.out _) rfl HS2.out rfl H1.out H63.out.1 H63.out.2 ?_; intro v6 w6 ho6 hc6 hnil6 hat6; clear hnil6; have HO6 := Lib.hid ho6; clear ho6; have HC6 := Lib.hid hc6; clear hc6; have HAT6 := Lib.hid hat6; clear hat6))
          refine ⟨⟨k + 1, by omega, by push_cast; rfl, AllI.step hgw hwS HOWN.out HOB.out HLO.out HCH.out HB3.out (by have := HO.out; rw [Bool.or_true] at this; exact this) HC35.out HP5.out HTK.out HO6.out HC6.out HAT6.out⟩, ?_⟩
          simp only [intOf]; omega
      · have hk' : k = l.length := by omega
        subst hk'
        have HI := Lib.hid hI
        clear hI
        go_wp2_with fail
        go_ret
        exact HI.out.out rfl HSPL.out (fun _ => rfl) HGX.out HC2.out

set_option maxRecDepth 100000 in
theorem readNums_any (w : World) {S : Nat → Prop} {v sent : Value} {bs : List UInt8} (h : Bs w S v bs) (hlen : bs.length ≤ 262144) (hg : Gl w sent) :
    Calls Tryd.prog 87 #[v] w (ReadOut (.list i64) w sent bs) := by
  obtain ⟨A, cap, rfl⟩ := h.form
  have H := Lib.hid (allInt_any _ (Pt.single h hg) hlen); clear h hg
  go_enter Tryd.func87, Tryd.ntmps87
  go_wp2_with fail
  refine H.out.mono ?_
  rintro e w1 ht
  obtain ⟨y, bad, rfl, h1, hc, hp, ho⟩ := ht.one (fun _ => rfl) rfl
  obtain ⟨v9, e9, hblk, herr⟩ := hp.parts
  have hcc := hblk.cell
  have HO := Lib.hid ho
  have HE := Lib.hid herr
  clear ho herr hp H ht hblk
  go_wp2_with fail
  go_quiet (fail)
  go_wp2_with fail
  go_ret2
  exact ReadOut.single (fun _ => rfl) hc HE.out HO.out

end Go.Proofs.YtjjgmkfkmckkoaaDoor

/- Codec: all[[]int]. -/
namespace Go.Proofs.YtjjgmkfkmckkoaaDoor
open Go.RowKit Go.Maps

theorem size_allNums_any : (Tryd.prog.info? 40).map (·.size) = some 1 := by kernel_rfl
theorem sizes_allNums_any : (Tryd.prog.info? 40).map (fun i => (i.zero.map (fun z => z.cells.size), i.size)) = some (some 1, 1) := by kernel_rfl
theorem info_allNums_any : (Tryd.prog.info? 40).map (fun i => (i.zero, i.size, i.bytes)) = some (some (.slice none 0 0), 1, 24) := by kernel_rfl
set_option maxHeartbeats 8000000 in
set_option maxRecDepth 100000 in
theorem allNums_any (w : World) {X : Nat → Prop} {E g : Nat} {sent : Value} {x : List UInt8} {rows : List (List UInt8)} {bad : Bool} (h : Pt w X E g sent (x :: rows) bad) (hxl : x.length ≤ 262144) :
    Calls Tryd.prog 86 #[.pointer (some ⟨g, 0, none⟩), .func (Fn.func 87) #[] #[]] w (Took (.list (.list i64)) w X E g sent x rows bad) := by
  have hgx := h.2.2.1
  have hgw := h.lt
  have hEw := h.2.2.2.2.1
  have HGX := Lib.hid hgx
  have HX1 := Lib.hid (show ∀ b, X b → b < w.heap.size from h.2.2.2.1)
  have H := Lib.hid (next_any _ h)
  clear h hgx
  go_enter Tryd.func86, Tryd.ntmps86
  go_wp2_with fail
  refine H.out.mono ?_
  rintro e w1 ⟨v1, rfl, hb1, hc1, hp1⟩
  have HSP := Lib.hid (split_any w1 hb1 (by omega))
  have hz1 := hc1.size
  have HP1 := Lib.hid hp1
  have HC1 := Lib.hid hc1
  obtain ⟨A1, c1, rfl⟩ := hb1.form
  clear hb1 hp1 hc1 H
  go_wp2_with fail
  refine HSP.out.mono ?_
  rintro e w2 ⟨hb2, ⟨hno, rfl⟩ | ⟨v2, l, hsp, rfl, hbss⟩⟩
  · have HNO := Lib.hid hno; clear hno
    have hp2 := HP1.out.below hb2
    obtain ⟨⟨sa, rfl⟩, hgl⟩ := hp2.1
    have hgl : w2.cell? ⟨gF, 0, none⟩ = some _ := hgl
    unfold gF at hgl
    have hlx := hp2.2.2.2.1
    have hE2 := hp2.2.2.2.2.1
    have hal := (Below.refl w2.heap.size w2).alloc (Nat.le_refl _) (.cells #[.string ⟨#[97, 32, 108, 105, 115, 116]⟩, .iface 205 (.pointer (some sa))] 137)
    have HBAD := Lib.hid (bad_any _ (hp2.below hal) (Chain.fresh _ ⟨fun h => absurd (hlx _ h) (Nat.lt_irrefl _), hE2⟩))
    have HC2 := Lib.hid (HC1.out.trans (Chg.of_below hb2 fun k => k = g) fun b h => .inl h)
    clear hp2 hlx hal hE2 hb2 HP1 HC1 HSP
    go_wp2_with fail
    refine HBAD.out.mono ?_
    rintro e w3 ⟨rfl, hc3, hp3⟩
    have HP3 := Lib.hid hp3
    have HC3 := Lib.hid hc3
    clear hp3 hc3 HBAD
    go_wp2_with fail
    refine wp_loop_rounds 1 ?_
    rw [rounds_succ]
    go_wp2
    go_ret
    exact ⟨[.slice none 0 0], true, rfl, (HC2.out.alloc _).trans HC3.out fun b h => .inl h, HP3.out, SOut.noList HNO.out rfl⟩
  · have hrl : ∀ y ∈ l, y.length ≤ 262144 := fun y hy => Nat.le_trans (joinP_mem_le hsp y hy) hxl
    have hll : l.length ≤ 32768 := by
      have h1 := splitB_back hsp
      have h2 := joinP_count l
      rw [← h1, joinB_length] at hxl
      omega
    obtain ⟨A2, c2, rfl⟩ := hbss.form
    have HROWS := Lib.hid (((hbss.read fun y hy => by have := hrl y hy; omega).lt_ (T := fun b => w1.heap.size ≤ b) fun b h => h.elim id id).subs (T := fun b => b ≠ g) fun b hb _ => by have := hb.1; omega)
    have HP2 := Lib.hid (HP1.out.below hb2)
    have HC2 := Lib.hid (HC1.out.trans (Chg.of_below hb2 fun k => k = g) fun b h => .inl h)
    have HSPL := Lib.hid hsp
    have HRL := Lib.hid hrl
    have hwS : w.heap.size ≤ w2.heap.size := Nat.le_trans hz1 hb2.size
    clear hbss hsp hrl hb2 HP1 HC1 HSP hxl
    go_wp2_with fail
    go_loopw [7, 28] (fun o i wr => ∃ k : Nat, k ≤ l.length ∧ i = .int .i64 k ∧ AllI 40 1 (.list i64) w w2 X E g sent rows bad l o k wr) (fun _ i _ => l.length - (intOf i).toNat)
    case atStart => exact ⟨0, Nat.zero_le _, rfl, AllI.start HP2.out⟩
    case round =>
      obtain ⟨k, hk, rfl, hI⟩ := hrel
      by_cases hlt : k < l.length
      · obtain ⟨css, bk, hown, hob, hlo, hpt, hch⟩ := hI
        obtain ⟨ba, oa, ua, rfl, hca, hua, _, hSb⟩ := (HROWS.out.chg hch (fun b hb h => hb h)).at_ hlt
        have htk : l.take (k + 1) = l.take k ++ [l[k]] := List.take_succ_eq_append_getElem hlt
        have hyl := HRL.out l[k] (List.getElem_mem hlt)
        obtain ⟨y, hy⟩ : ∃ y, y = l[k] := ⟨_, rfl⟩
        rw [← hy] at hua htk hyl
        have HR := Lib.hid (readNums_any wr hua hyl hpt.1)
        obtain ⟨Ay, cy, rfl⟩ := hua.form
        obtain ⟨Ao, co, rfl⟩ := hown.form
        have HOWN := Lib.hid hown
        have HOB := Lib.hid hob
        have HLO := Lib.hid hlo
        have HPT := Lib.hid hpt
        have HCH := Lib.hid hch
        have HTK := Lib.hid htk
        have H63 := Lib.hid (show k + 1 ≤ maxLen ∧ (k + 1) * 24 ≤ 140737488355328 from ⟨by simp only [maxLen]; omega, by omega⟩)
        have hzr := hch.size
        clear hown hob hlo hpt hch htk hy hua hyl
        go_wp2_with fail
        refine HR.out.mono ?_
        rintro e w3 hro
        obtain ⟨y0, err, bd, rfl, h1, hb3, he, ho⟩ := hro.one (fun _ => rfl) rfl
        have HY1 := Lib.hid h1
        have H1 := Lib.hid (show ∀ u ∈ [y0], u.oneCell' = true from fun u hu => by obtain rfl := List.mem_singleton.1 hu; exact h1)
        have HI2 := Lib.hid sizes_allNums_any
        clear h1
        have HB3 := Lib.hid hb3
        have HP3 := Lib.hid (HPT.out.below hb3)
        have HO := Lib.hid (ho.or_ bk)
        clear hro hb3 ho HR
        rcases he with ⟨rfl, rfl⟩ | ⟨rfl, hcn⟩
        · skip
          have HO2 := Lib.hid (show ∀ ob, Own (w3.alloc ob) 40 1 (.slice Ao k co) k css.flatten from fun ob => own_keep HOWN.out fun b hb => (by have h1 := own_lt HOWN.out hb; have h2 := HOB.out b hb; have h3 := HB3.out.size; exact (Below.heap_alloc w3 ob b (Nat.lt_of_lt_of_le h1 h3)).trans (HB3.out.block b h1)))
          have HS2 := Lib.hid (Cs.of_new w3 40 (size := 1) 1 (cs := [y0]) rfl (by simp only [maxLen]; decide))
          go_wp2_with (first
            | (refine wpList_row1 rfl 61 40 _ rfl Tryd.underlying61 y0 rfl [y0] (cells_one HY1.out) HI2.out (by simp) (by simp) ?_)
            | (at_builtin; refine wpList_app _ rfl _ _ _ rfl Tryd.underlying61 info_allNums_any rfl (by decide) (HO2.out _) rfl HS2.out rfl H1.out H63.out.1 H63.out.2 ?_; intro v6 w6 ho6 hc6 hnil6 hat6; clear hnil6; have HO6 := Lib.hid ho6; clear ho6; have HC6 := Lib.hid hc6; clear hc6; have HAT6 := Lib.hid hat6; clear hat6))
          refine ⟨⟨k + 1, by omega, by push_cast; rfl, AllI.step hgw hwS HOWN.out HOB.out HLO.out HCH.out HB3.out (by have := HO.out; rw [Bool.or_false] at this; exact this) (Chg.refl (fun b => b = g) w3) HP3.out HTK.out HO6.out HC6.out HAT6.out⟩, ?_⟩
          simp only [intOf]; omega
        · skip
          obtain ⟨gw, rfl⟩ := hcn.form
          have HCN := Lib.hid hcn; clear hcn
          have hp4 := HP3.out
          have hlx := hp4.2.2.2.1
          have hE4 := hp4.2.2.2.2.1
          have hz4 := Nat.le_refl w3.heap.size
          have hz3 := HB3.out.size
          have hal := (Below.refl w3.heap.size w3).alloc (Nat.le_refl _) (.cells #[.string ⟨#[105, 110, 32, 97, 32, 108, 105, 115, 116]⟩, .iface 133 (.pointer (some ⟨gw, 0, none⟩))] 137)
          have hcn4 := (HCN.out.to (w' := w3) (S' := fun b => ¬ (X b ∨ (Value.slice Ao k co).ownBlock = some b) ∧ E ≤ b) (fun b hb hlt => ⟨hlt, rfl⟩) fun b hb hlt => ⟨fun h => h.elim (fun h => by have := HX1.out b h; omega) fun h => by have := own_lt HOWN.out h; omega, by omega⟩)
          have HBAD := Lib.hid (bad_any _ (hp4.below hal) (hcn4.freshMore _ ⟨fun h => absurd (hlx _ h) (Nat.lt_irrefl _), hE4⟩))
          clear hp4 hlx hal hcn4 hE4
          go_wp2_with fail
          refine HBAD.out.mono ?_
          rintro e w5 ⟨rfl, hc5, hp5⟩
          have HP5 := Lib.hid hp5
          have HC35 := Lib.hid (show Chg (fun b => b = g) w3 w5 from ((Chg.refl (fun b => b = g) w3).alloc _).trans hc5 fun b h => .inl h)
          clear hc5 hp5 HBAD
          have HO2 := Lib.hid (show ∀ ob, Own (w5.alloc ob) 40 1 (.slice Ao k co) k css.flatten from fun ob => own_keep HOWN.out fun b hb => (by have h1 := own_lt HOWN.out hb; have h2 := HOB.out b hb; have h3 := HB3.out.size; exact (Below.heap_alloc w5 ob b (Nat.lt_of_lt_of_le (Nat.lt_of_lt_of_le h1 h3) HC35.out.size)).trans ((HC35.out.block b (Nat.lt_of_lt_of_le h1 h3) (fun e => by omega)).trans (HB3.out.block b h1))))
          have HS2 := Lib.hid (Cs.of_new w5 40 (size := 1) 1 (cs := [y0]) rfl (by simp only [maxLen]; decide))
          go_wp2_with (first
            | (refine wpList_row1 rfl 61 40 _ rfl Tryd.underlying61 y0 rfl [y0] (cells_one HY1.out) HI2.out (by simp) (by simp) ?_)
            | (at_builtin; refine wpList_app _ rfl _ _ _ rfl Tryd.underlying61 info_allNums_any rfl (by decide) (HO2.out _) rfl HS2.out rfl H1.out H63.out.1 H63.out.2 ?_; intro v6 w6 ho6 hc6 hnil6 hat6; clear hnil6; have HO6 := Lib.hid ho6; clear ho6; have HC6 := Lib.hid hc6; clear hc6; have HAT6 := Lib.hid hat6; clear hat6))
          refine ⟨⟨k + 1, by omega, by push_cast; rfl, AllI.step hgw hwS HOWN.out HOB.out HLO.out HCH.out HB3.out (by have := HO.out; rw [Bool.or_true] at this; exact this) HC35.out HP5.out HTK.out HO6.out HC6.out HAT6.out⟩, ?_⟩
          simp only [intOf]; omega
      · have hk' : k = l.length := by omega
        subst hk'
        have HI := Lib.hid hI
        clear hI
        go_wp2_with fail
        go_ret
        exact HI.out.out rfl HSPL.out (fun _ => rfl) HGX.out HC2.out

end Go.Proofs.YtjjgmkfkmckkoaaDoor

/- Codec: a record read. -/
namespace Go.Proofs.YtjjgmkfkmckkoaaDoor
open Go.RowKit Go.Maps
attribute [-simp] Tryd.isAgg23 Tryd.typeInfo23 Tryd.isAgg63 Tryd.typeInfo63

theorem info_readRecord : (Tryd.prog.info? 63).map (fun i => (i.zero.map (fun z => z.cells.size))) = some (some 3) := by kernel_rfl
theorem size_readRecord : (Tryd.prog.info? 63).map (·.size) = some 3 := by kernel_rfl
theorem places_readRecord : ((match Tryd.prog.underlying 63 with | some (.struct fields) => fields.toList.mapM (fun f => (Tryd.prog.info? f.type).map fun i => (f.offset, i.size)) | _ => none)) = some [(0, 1), (1, 1), (2, 1)] := by kernel_rfl
set_option maxHeartbeats 4000000 in
set_option maxRecDepth 100000 in
theorem readRecord_any (w : World) {S : Nat → Prop} {v sent : Value} {bs : List UInt8} (h : Bs w S v bs) (hlen : bs.length ≤ 262144) (hg : Gl w sent) :
    Calls Tryd.prog 57 #[v] w (ReadOut (.tup (.cons i64 (.cons (.list i64) (.cons (.list (.list i64)) .nil)))) w sent bs) := by
  have hal := (Below.refl w.heap.size w).alloc (Nat.le_refl _) (.cells (([.int .i64 0, .slice none 0 0, .slice none 0 0] : List Value)).toArray 63)
  have HS := Lib.hid (psplit_any _ (h.below hal) (by omega) (hg.below hal) 3 (by omega) ⟨#[97, 32, 114, 101, 99, 111, 114, 100]⟩)
  have HN := Lib.hid (Blk.new w 63 (([.int .i64 0, .slice none 0 0, .slice none 0 0] : List Value)).toArray)
  have HAL := Lib.hid hal
  obtain ⟨A, cap, rfl⟩ := h.form
  clear h hg hal
  go_enter Tryd.func57, Tryd.ntmps57
  go_wp2_with fail
  refine HS.out.mono ?_
  rintro e w1 ⟨g, rows, bad, rfl, hgw, hb1, hp, hn, hrl, hs⟩
  obtain ⟨r0, r1, r2, rfl⟩ : ∃ r0 r1 r2, rows = [r0, r1, r2] := by
    match rows, hn with
    | [r0, r1, r2], _ => exact ⟨r0, r1, r2, rfl⟩
  have HK := Lib.hid (HN.out.below hb1 (by simp))
  have hgw' : w.heap.size + 1 ≤ g := by simpa using hgw
  have hz1 : w.heap.size + 1 ≤ w1.heap.size := by simpa using hb1.size
  have HB1 := Lib.hid (HAL.out.trans (hb1.mono (by simp)))
  have HSS := Lib.hid hs
  have HRL := Lib.hid (show ∀ x ∈ [r0, r1, r2], x.length ≤ 262144 from fun x hx => Nat.le_trans (hrl x hx) hlen)
  have hE : Pt w1 (fun b => b = g) (w.heap.size + 1) g sent [r0, r1, r2] bad := by simpa using hp
  clear HS HN HAL hgw hb1 hs hn hp hrl hlen
  have hp0 := hE
  clear hE
  go_wp2_with fail
  refine (int_any _ hp0).mono ?_
  rintro e w2 ht
  obtain ⟨y0, b0, rfl, h10, hc0, hp1, ho0⟩ := ht.one (fun _ => rfl) rfl
  have hgl0 := hp0.lt
  have hz2 := Nat.le_trans hz1 hc0.size
  have HO0 := Lib.hid ho0
  have HC0 := Lib.hid hc0
  have H10 := Lib.hid h10
  clear ht ho0 hc0 h10 hp0
  go_wp2_with fail
  refine (allInt_any _ hp1 (HRL.out _ (by simp))).mono ?_
  rintro e w3 ht
  obtain ⟨y1, b1, rfl, h11, hc1, hp2, ho1⟩ := ht.one (fun _ => rfl) rfl
  have hgl1 := hp1.lt
  have hz3 := Nat.le_trans hz2 hc1.size
  have HO1 := Lib.hid ho1
  have HC1 := Lib.hid hc1
  have H11 := Lib.hid h11
  clear ht ho1 hc1 h11 hp1
  go_wp2_with fail
  refine (allNums_any _ hp2 (HRL.out _ (by simp))).mono ?_
  rintro e w4 ht
  obtain ⟨y2, b2, rfl, h12, hc2, hp3, ho2⟩ := ht.one (fun _ => rfl) rfl
  have hgl2 := hp2.lt
  have hz4 := Nat.le_trans hz3 hc2.size
  have HO2 := Lib.hid ho2
  have HC2 := Lib.hid hc2
  have H12 := Lib.hid h12
  clear ht ho2 hc2 h12 hp2
  have hbu := run_struct (P := Tryd.prog) (vs := [y0, y1, y2]) (cs := [[y0], [y1], [y2]]) info_readRecord places_readRecord ⟨cells_one H10.out, cells_one H11.out, cells_one H12.out, trivial⟩ (by simp [PlaceOk]) (by simp) #[(0, y0), (1, y1), (2, y2)] rfl
  have hone : ∀ v ∈ [[y0], [y1], [y2]].flatten, v.oneCell' = true := by
    intro v hv
    simp only [List.flatten_cons, List.flatten_nil, List.mem_append, List.mem_singleton, List.not_mem_nil, or_false] at hv
    rcases hv with rfl | rfl | rfl
    · exact H10.out
    · exact H11.out
    · exact H12.out
  have HOUT := Lib.hid (show Fs.Out (.cons i64 (.cons (.list i64) (.cons (.list (.list i64)) .nil))) w4 (fun b => w.heap.size + 1 ≤ b) [r0, r1, r2] [[y0], [y1], [y2]].flatten bad b2 from by
    have := Fs.Out.step HO0.out (Fs.Out.step HO1.out (Fs.Out.step HO2.out (Fs.Out.nil_ w4 _ _) (Chg.refl _ _) hgl2 hz3) HC2.out hgl1 hz2) (HC1.out.trans HC2.out fun b h => .inl h) hgl0 hz1
    simpa using this)
  have HCA := Lib.hid (show Chg (fun k => k = g) w1 w4 from ((HC0.out.trans HC1.out fun b h => .inl h).trans HC2.out fun b h => .inl h))
  have hcl : [[y0], [y1], [y2]].flatten.length = 3 := by simp
  obtain ⟨C, hC⟩ : ∃ C, C = [[y0], [y1], [y2]].flatten := ⟨_, rfl⟩
  rw [← hC] at hbu hone hcl HOUT
  have HBU := Lib.hid hbu
  have HONE := Lib.hid hone
  have HCL := Lib.hid hcl
  have HI := Lib.hid (show (Tryd.prog.info? 63).map (·.size) = some C.length from by rw [hcl]; exact size_readRecord)
  have HK2 := Lib.hid (HK.out.chg HCA.out (show ¬ w.heap.size = g from by omega))
  clear hbu hone hcl hC HK HO0 HC0 H10 HO1 HC1 H11 HO2 HC2 H12 
  have HP := Lib.hid hp3
  have hgX := hp3.lt
  clear hp3
  have hbu := HBU.out w4
  have HX := Lib.hid (HP.out.parts)
  go_wp2_with (first | (refine wpList_build_ rfl 63 _ rfl #[(0, y0), (1, y1), (2, y2)] (by simp [Act.eval]) _ hbu ?_) | (refine wpList_store_blk (cs0 := ([.int .i64 0, .slice none 0 0, .slice none 0 0] : List Value)) (cs := C) rfl 63 _ _ rfl (Blk.new w4 _ _) rfl rfl (by rw [HCL.out]; rfl) HI.out HONE.out ?_; intro wx hbx hcx; have HBX := Lib.hid hbx; have HCX := Lib.hid hcx; clear hbx hcx))
  obtain ⟨vy, ey, hblk, herr⟩ := HX.out
  have HCX' := Lib.hid (show Chg (fun _ => False) w4 wx from ((Chg.refl _ w4).alloc _).trans HCX.out fun b h => .inr (Nat.le_of_eq h.symm))
  have HGX := Lib.hid (hblk.chg HCX'.out id)
  have HKX := Lib.hid (HK2.out.chg HCX'.out id)
  have HE := Lib.hid herr
  clear hbu hblk herr HX HBU
  refine wp_region_hoist [0, 1, 2, 3, 4] [5] [6] (fun w' => Blk w' w4.heap.size 63 C.toArray ∧ Blk w' g 147 #[vy, ey])
    (by kernel_rfl) (by kernel_rfl) (by kernel_rfl) (by kernel_rfl) (by kernel_rfl) (by kernel_rfl) ⟨HBX.out.drew, HGX.out.drew⟩ ?_
  (refine HoistK.load (by rfl) (by kernel_rfl) 63 _ rfl w4.heap.size 0 rfl C _ (fun w' hw => hw.1.range) Tryd.underlying63 rfl HI.out ?_; simp only [Act.put, List.setIfInBounds_toArray, List.getElem_toArray, List.getElem_cons_zero, List.set_cons_succ, List.set_cons_zero])
  (refine HoistK.yes (by rfl) (by kernel_rfl) ⟨?_, fun w' hSw => ?_, ?_⟩; rotate_left; (· go_simp; try with_reducible rfl); simp only [Act.put, List.setIfInBounds_toArray, List.getElem_toArray, List.getElem_cons_succ, List.getElem_cons_zero, List.set_cons_succ, List.set_cons_zero])
  (refine HoistK.yes (by rfl) (by kernel_rfl) ⟨?_, fun w' hSw => ?_, ?_⟩; rotate_left; (· go_simp; try with_reducible rfl); simp only [Act.put, List.setIfInBounds_toArray, List.getElem_toArray, List.getElem_cons_succ, List.getElem_cons_zero, List.set_cons_succ, List.set_cons_zero])
  (refine HoistK.yes (by rfl) (by kernel_rfl) ⟨?_, fun w' hSw => ?_, ?_⟩; rotate_left; (· go_simp; try with_reducible rfl); simp only [Act.put, List.setIfInBounds_toArray, List.getElem_toArray, List.getElem_cons_succ, List.getElem_cons_zero, List.set_cons_succ, List.set_cons_zero])
  (refine HoistK.yes (by rfl) (by kernel_rfl) ⟨?_, fun w' hSw => ?_, ?_⟩; rotate_left; (· have hcc := hSw.2.cell; go_simp; try with_reducible rfl); simp only [Act.put, List.setIfInBounds_toArray, List.getElem_toArray, List.getElem_cons_succ, List.getElem_cons_zero, List.set_cons_succ, List.set_cons_zero])
  refine HoistK.nil_ ?_
  simp only [opsAt, List.filterMap_cons, List.filterMap_nil, List.getElem?_toArray, List.getElem?_cons_succ, List.getElem?_cons_zero]
  refine Effects.cons_ fun _ hQ1 => ?_
  go_wp2_with (refine wpList_store_blk (cs0 := ([.int .i64 0, .slice none 0 0, .slice none 0 0] : List Value)) (cs := C) rfl 63 _ _ rfl HKX.out.drew rfl rfl (by rw [HCL.out]; rfl) HI.out HONE.out ?_; intro wy hby hcy; have HBY := Lib.hid hby; have HCY := Lib.hid hcy; clear hby hcy)
  refine hQ1 _ _ ⟨HBX.out.drew.chg HCY.out (fun h => by omega), HGX.out.drew.chg HCY.out (fun h => by omega)⟩ (Effects.nil_ fun _ hQ2 => ?_)
  go_wp2
  have hld := run_loadVar_mid (P := Tryd.prog) wy w.heap.size 0 63 C _ HBY.out.range Tryd.underlying63 rfl HI.out
  refine bodyPost_ret (v := .tuple #[.agg C.toArray, ey]) (by simp [results, Tryd.results57, asAddr, hld]) rfl ?_
  have hcf : Chg (fun b => b = w.heap.size) w4 wy := ((HCX'.out.mono fun _ h => h.elim).drew).trans HCY.out fun b h => .inl h
  exact ReadOut.mk (n := 3) HOUT.out HSS.out rfl HE.out (HB1.out.trans (HCA.out.below HB1.out.size fun b h => by omega)) hcf

end Go.Proofs.YtjjgmkfkmckkoaaDoor

/- Codec: face[Record], ReadRecord. -/
namespace Go.Proofs.YtjjgmkfkmckkoaaDoor
open Go.RowKit Go.Maps
attribute [-simp] Tryd.isAgg23 Tryd.typeInfo23 Tryd.isAgg63 Tryd.typeInfo63

def zFRecord : List Value := ([.int .i64 0, .slice none 0 0, .slice none 0 0] : List Value)
theorem one_faceRecord : ∀ v ∈ zFRecord, v.oneCell' = true := by decide
theorem len_faceRecord : zFRecord.length = 3 := by decide
theorem size_faceRecord : (Tryd.prog.info? 63).map (·.size) = some zFRecord.length := by kernel_rfl
set_option maxHeartbeats 8000000 in
set_option maxRecDepth 100000 in
theorem faceRecord_any (w : World) {S : Nat → Prop} {v sent : Value} {bs : List UInt8} (h : Bs w S v bs) (hp : Pk w sent) :
    Calls Tryd.prog 56 #[v, .func (Fn.func 57) #[] #[]] w (FaceOut tRecord w bs) := by
  obtain ⟨A, cap, rfl⟩ := h.form
  have hal1 := (Below.refl w.heap.size w).alloc (Nat.le_refl _) (.cells (zFRecord).toArray 63)
  have hal2 := hal1.alloc (by simp) (.cells (zFRecord).toArray 63)
  have hr0 := (Blk.new w 63 (zFRecord).toArray).alloc (.cells (zFRecord).toArray 63)
  have hz0 := Blk.new (w.alloc (.cells (zFRecord).toArray 63)) 63 (zFRecord).toArray
  rw [show (w.alloc (.cells (zFRecord).toArray 63)).heap.size = w.heap.size + 1 by simp] at hz0
  by_cases hbig : 262144 < bs.length
  · obtain ⟨sb, hsb⟩ : ∃ sb, w.cell? ⟨0, 0, none⟩ = some (.iface 205 (.pointer (some sb))) := by
      obtain ⟨_, _, b, _, _, _, _, _, _, _, _, h, _⟩ := hp
      exact ⟨b, h⟩
    have hgb : ∀ {W : World}, Below w.heap.size w W → W.cell? ⟨0, 0, none⟩ = some (.iface 205 (.pointer (some sb))) := fun hb => cell_low hsb hb
    clear h
    go_enter Tryd.func56, Tryd.ntmps56
    go_wp2_with fail
    have hb := hal2.drew
    have hr : Blk _ _ _ _ := hr0.drew
    have hz : Blk _ _ _ _ := hz0.drew
    clear hal1 hal2 hz0 hsb
    refine wp_region_hoist [0, 1, 2] [3, 4, 5] [6, 7] (fun w' => Blk w' (w.heap.size + 1) 63 (zFRecord).toArray ∧ w'.cell? ⟨0, 0, none⟩ = some (.iface 205 (.pointer (some sb)))) (by kernel_rfl) (by kernel_rfl) (by kernel_rfl) (by kernel_rfl) (by kernel_rfl) (by kernel_rfl) ⟨hz, hgb hb⟩ ?_
    (refine HoistK.load (by rfl) (by kernel_rfl) 63 _ rfl (w.heap.size + 1) 0 rfl zFRecord _ (fun w' hw => hw.1.range) Tryd.underlying63 rfl size_faceRecord ?_; simp only [Act.put, List.setIfInBounds_toArray, List.getElem_toArray, List.getElem_cons_zero, List.set_cons_succ, List.set_cons_zero])
    (refine HoistK.yes (by rfl) (by kernel_rfl) ⟨?_, fun w' hSw => ?_, ?_⟩; rotate_left; (· have hcc := hSw.2; go_simp; try with_reducible rfl); simp only [Act.put, List.setIfInBounds_toArray, List.getElem_toArray, List.getElem_cons_succ, List.getElem_cons_zero, List.set_cons_succ, List.set_cons_zero])
    (refine HoistK.yes (by rfl) (by kernel_rfl) ⟨?_, fun w' hSw => ?_, ?_⟩; rotate_left; (· go_simp; try with_reducible rfl); simp only [Act.put, List.setIfInBounds_toArray, List.getElem_toArray, List.getElem_cons_succ, List.getElem_cons_zero, List.set_cons_succ, List.set_cons_zero])
    refine HoistK.nil_ ?_
    simp only [opsAt, List.filterMap_cons, List.filterMap_nil, List.getElem?_toArray, List.getElem?_cons_succ, List.getElem?_cons_zero]
    refine Effects.world (F := fun W => Below w.heap.size w W ∧ Blk W w.heap.size 63 (zFRecord).toArray ∧ Blk W (w.heap.size + 1) 63 (zFRecord).toArray) (fun W hF => ?_) ⟨hb, hr, hz⟩
    clear hb hr hz hr0
    obtain ⟨hb, hr, hz⟩ := hF
    refine Effects.cons_ fun _ hQ => ?_
    have hzl := hz.lt
    go_wp2_with fail
    have hk := Blk.new W 137 #[.string ⟨#[97, 108, 108]⟩, .iface 205 (.pointer (some sb))]
    replace hb := hb.alloc hb.size (.cells #[.string ⟨#[97, 108, 108]⟩, .iface 205 (.pointer (some sb))] 137)
    replace hr := hr.alloc (.cells #[.string ⟨#[97, 108, 108]⟩, .iface 205 (.pointer (some sb))] 137)
    replace hz := hz.alloc (.cells #[.string ⟨#[97, 108, 108]⟩, .iface 205 (.pointer (some sb))] 137)
    obtain ⟨gg, hgg⟩ : ∃ gg, gg = W.heap.size := ⟨_, rfl⟩
    have hgn : gg ≠ w.heap.size := by omega
    rw [← hgg] at hk ⊢
    have HGG := Lib.hid hgg; clear hgg
    generalize W.alloc (.cells #[.string ⟨#[97, 108, 108]⟩, .iface 205 (.pointer (some sb))] 137) = W1 at *
    refine hQ _ _ ⟨hz, hgb hb⟩ (Effects.cons_ fun _ hQ => ?_)
    go_wp2_with fail
    refine hQ _ _ ⟨hz, hgb hb⟩ (Effects.cons_ fun _ hQ => ?_)
    go_wp2_with fail
    refine (told_any (r := true) _ (hp.below hb) ⟨gg, 1, _, rfl, .more hk .last, hgb hb⟩).mono ?_
    rintro e W2 ⟨rfl, hb2⟩
    replace hb := hb.trans (hb2.mono hb.size)
    replace hr := hr.below hb2 hr.lt
    replace hz := hz.below hb2 hz.lt
    replace hk := hk.below hb2 hk.lt
    go_wp2_with fail
    refine hQ _ _ ⟨hz, hgb hb⟩ (Effects.nil_ fun _ hQ => ?_)
    refine wpList_store_blk (cs0 := zFRecord) (cs := zFRecord) rfl 63 _ _ rfl hr rfl rfl rfl size_faceRecord one_faceRecord ?_
    intro W3 hr3 hc3
    go_wp2_with fail
    replace hb := hb.trans (hc3.below hb.size fun b h => Nat.le_of_eq h.symm)
    have hld := run_loadVar_mid (P := Tryd.prog) _ w.heap.size 0 63 zFRecord _ hr3.range Tryd.underlying63 rfl size_faceRecord
    exact bodyPost_ret (v := .tuple #[.agg (zFRecord).toArray, .int .i64 4]) (by simp [results, Tryd.results56, asAddr, hld]) rfl ⟨hb, _, 4, rfl, len_faceRecord, one_faceRecord, .inl ⟨hbig, rfl⟩⟩
  · have hlen : bs.length ≤ 262144 := by omega
    have HR := Lib.hid (readRecord_any _ (h.below hal2) hlen (hp.1.below hal2))
    have HA := Lib.hid hal2
    have HR0 := Lib.hid hr0
    have HZ0 := Lib.hid hz0
    clear h hal1 hal2 hr0 hz0
    go_enter Tryd.func56, Tryd.ntmps56
    go_wp2_with fail
    refine HR.out.mono ?_
    rintro e w2 hro
    obtain ⟨C, err, bd, rfl, h1, hl, hb2, he, ho⟩ := hro.agg (fun _ => rfl)
    have hl : C.length = 3 := hl
    have HL := Lib.hid hl
    have HI := Lib.hid (show (Tryd.prog.info? 63).map (·.size) = some C.length from by rw [hl]; rw [size_faceRecord, len_faceRecord])
    have H1 := Lib.hid h1
    have HK := Lib.hid (HR0.out.below hb2 HR0.out.lt)
    have HZ := Lib.hid (HZ0.out.below hb2 HZ0.out.lt)
    have hz2 : w.heap.size + 2 ≤ w2.heap.size := by have := hb2.size; simpa using this
    have HB2 := Lib.hid (HA.out.trans (hb2.mono HA.out.size))
    have HO := Lib.hid (show SOut tRecord w2 (fun b => w.heap.size + 2 ≤ b) bs C false bd from ho.to (fun b _ hlt => ⟨hlt, rfl⟩) fun b hb _ => by simpa using hb)
    have he := he.to (w' := w2) (S' := fun b => w.heap.size + 2 ≤ b) (fun b _ hlt => ⟨hlt, rfl⟩) fun b hb _ => by simpa using hb
    clear hro h1 hl hb2 ho HR HA HR0 HZ0
    rcases he with ⟨rfl, rfl⟩ | ⟨rfl, hch⟩
    · go_wp2_with (first
        | (refine wpList_store_blk (cs0 := zFRecord) (cs := C) rfl 63 _ _ rfl (Blk.new w2 _ _) rfl rfl (by rw [HL.out]; exact len_faceRecord) HI.out H1.out ?_; intro w3 hb3 hc3; have HB3 := Lib.hid hb3
           have HC3 := Lib.hid (show Chg (fun _ => False) w2 w3 from ((Chg.refl _ w2).alloc _).trans hc3 fun b h => .inr (Nat.le_of_eq h.symm)); clear hb3 hc3
           have HK3 := Lib.hid (HK.out.chg HC3.out id))
        | (refine wpList_load_blk' rfl 63 _ rfl HB3.out rfl Tryd.underlying63 rfl HI.out ?_)
        | (refine wpList_store_blk (cs0 := zFRecord) (cs := C) rfl 63 _ _ rfl HK3.out rfl rfl (by rw [HL.out]; exact len_faceRecord) HI.out H1.out ?_; intro w9 hb9 hc9; have HB9 := Lib.hid hb9; have HC9 := Lib.hid hc9; clear hb9 hc9))
      have hld := run_loadVar_mid (P := Tryd.prog) w9 w.heap.size 0 63 C _ HB9.out.range Tryd.underlying63 rfl HI.out
      refine bodyPost_ret (v := .tuple #[.agg C.toArray, .int .i64 0]) (by simp [results, Tryd.results56, asAddr, hld]) rfl ?_
      obtain ⟨o1, o2, o3⟩ := HO.out
      have hc29 : Chg (fun b => b = w.heap.size) w2 w9 := (HC3.out.mono (M' := fun b => b = w.heap.size) fun _ h => h.elim).trans HC9.out fun b h => .inl h
      refine ⟨HB2.out.trans (hc29.below HB2.out.size fun b h => Nat.le_of_eq h.symm), C, 0, rfl, o1, o2, .inr ⟨hlen, .inl ?_⟩⟩
      rcases o3 with ⟨x, e1, _, e3⟩ | ⟨_, e2⟩
      · exact ⟨x, e1, rfl, Sh.rep_to (fun b hb hlt => ⟨Nat.lt_of_lt_of_le hlt hc29.size, hc29.block b hlt fun e => by omega⟩) (fun b hb _ => by omega) _ _ _ e3⟩
      · cases e2
    · obtain ⟨gw, rfl⟩ := hch.form
      have HCH := Lib.hid hch; clear hch
      have hno : Sh.dec tRecord bs = none := by
        obtain ⟨_, _, o3⟩ := HO.out
        rcases o3 with ⟨x, _, e2, _⟩ | ⟨e1, _⟩
        · cases e2
        · exact e1
      have HNO := Lib.hid hno; clear hno
      go_wp2_with (refine wpList_store_blk (cs0 := zFRecord) (cs := C) rfl 63 _ _ rfl (Blk.new w2 _ _) rfl rfl (by rw [HL.out]; exact len_faceRecord) HI.out H1.out ?_; intro w3 hb3 hc3; have HC3 := Lib.hid (show Chg (fun _ => False) w2 w3 from ((Chg.refl _ w2).alloc _).trans hc3 fun b h => .inr (Nat.le_of_eq h.symm)); clear hb3 hc3)
      have hr : Blk _ _ _ _ := (HK.out.chg HC3.out id).drew
      have hz : Blk _ _ _ _ := (HZ.out.chg HC3.out id).drew
      have hb := (HB2.out.trans (HC3.out.below HB2.out.size fun b h => h.elim)).drew
      have hch3 := HCH.out.to (w' := w3.drew) (S' := fun b => w.heap.size + 2 ≤ b) (fun b hb hlt => ⟨Nat.lt_of_lt_of_le hlt HC3.out.size, HC3.out.block b hlt id⟩) fun b hb _ => hb
      have hz3 : w.heap.size + 2 ≤ w3.drew.heap.size := Nat.le_trans hz2 HC3.out.size
      refine wp_region_hoist [0, 1] [2] [3, 4] (fun w' => Blk w' (w.heap.size + 1) 63 (zFRecord).toArray) (by kernel_rfl) (by kernel_rfl) (by kernel_rfl) (by kernel_rfl) (by kernel_rfl) (by kernel_rfl) hz ?_
      (refine HoistK.load (by rfl) (by kernel_rfl) 63 _ rfl (w.heap.size + 1) 0 rfl zFRecord _ (fun w' hw => hw.range) Tryd.underlying63 rfl size_faceRecord ?_; simp only [Act.put, List.setIfInBounds_toArray, List.getElem_toArray, List.getElem_cons_zero, List.set_cons_succ, List.set_cons_zero])
      (refine HoistK.yes (by rfl) (by kernel_rfl) ⟨?_, fun w' hSw => ?_, ?_⟩; rotate_left; (· go_simp; try with_reducible rfl); simp only [Act.put, List.setIfInBounds_toArray, List.getElem_toArray, List.getElem_cons_succ, List.getElem_cons_zero, List.set_cons_succ, List.set_cons_zero])
      refine HoistK.nil_ ?_
      simp only [opsAt, List.filterMap_cons, List.filterMap_nil, List.getElem?_toArray, List.getElem?_cons_succ, List.getElem?_cons_zero]
      refine Effects.world (F := fun W => Below w.heap.size w W ∧ Blk W w.heap.size 63 (zFRecord).toArray ∧ Blk W (w.heap.size + 1) 63 (zFRecord).toArray ∧ Chain W (fun b => w.heap.size + 2 ≤ b) sent (.iface 133 (.pointer (some ⟨gw, 0, none⟩)))) (fun W hF => ?_) ⟨hb, hr, hz, hch3⟩
      clear hb hr hz hch3 hz3
      obtain ⟨hb, hr, hz, hch⟩ := hF
      refine Effects.cons_ fun _ hQ => ?_
      go_wp2_with fail
      refine (told_any (r := false) _ (hp.below hb) (Wr.of_chain hch)).mono ?_
      rintro e W2 ⟨rfl, hb2⟩
      replace hb := hb.trans (hb2.mono hb.size)
      replace hr := hr.below hb2 hr.lt
      replace hz := hz.below hb2 hz.lt
      go_wp2_with fail
      refine hQ _ _ hz (Effects.nil_ fun _ hQ => ?_)
      refine wpList_store_blk (cs0 := zFRecord) (cs := zFRecord) rfl 63 _ _ rfl hr rfl rfl rfl size_faceRecord one_faceRecord ?_
      intro W3 hr3 hc3
      go_wp2_with fail
      replace hb := hb.trans (hc3.below hb.size fun b h => Nat.le_of_eq h.symm)
      have hld := run_loadVar_mid (P := Tryd.prog) _ w.heap.size 0 63 zFRecord _ hr3.range Tryd.underlying63 rfl size_faceRecord
      exact bodyPost_ret (v := .tuple #[.agg (zFRecord).toArray, .int .i64 5]) (by simp [results, Tryd.results56, asAddr, hld]) rfl ⟨hb, _, 5, rfl, len_faceRecord, one_faceRecord, .inr ⟨hlen, .inr ⟨HNO.out, rfl⟩⟩⟩

set_option maxHeartbeats 4000000 in
set_option maxRecDepth 100000 in
theorem ReadRecord_any (w : World) {S : Nat → Prop} {v sent : Value} {bs : List UInt8} (h : Bs w S v bs) (hp : Pk w sent) :
    Calls Tryd.prog 20 #[v] w (FaceOut tRecord w bs) := by
  have hal1 := (Below.refl w.heap.size w).alloc (Nat.le_refl _) (.cells (zFRecord).toArray 63)
  have HF := Lib.hid (faceRecord_any _ (h.below hal1) (hp.below hal1))
  have HR := Lib.hid (Blk.new w 63 (zFRecord).toArray)
  have HA := Lib.hid hal1
  obtain ⟨A, cap, rfl⟩ := h.form
  clear h hp hal1
  go_enter Tryd.func20, Tryd.ntmps20
  go_wp2_with fail
  refine HF.out.mono ?_
  rintro e w1 ⟨hb, C, n, rfl, hl, h1, hn⟩
  have hl : C.length = 3 := hl
  have HL := Lib.hid hl
  have HI := Lib.hid (show (Tryd.prog.info? 63).map (·.size) = some C.length from by rw [hl]; rw [size_faceRecord, len_faceRecord])
  have H1 := Lib.hid h1
  have hlz : (zFRecord).length = C.length := by rw [hl, len_faceRecord]
  have HLZ := Lib.hid hlz
  have HK := Lib.hid (HR.out.below hb (by simp))
  have HB := Lib.hid hb
  have HN := Lib.hid hn
  have hz1 : w.heap.size + 1 ≤ w1.heap.size := by have := hb.size; simpa using this
  clear hl h1 hlz hb hn HF HR
  go_wp2_with (refine wpList_store_blk (cs0 := zFRecord) (cs := C) rfl 63 _ _ rfl HK.out rfl rfl HLZ.out HI.out H1.out ?_; intro w9 hb9 hc9; have HB9 := Lib.hid hb9; have HC9 := Lib.hid hc9; clear hb9 hc9)
  have hld := run_loadVar_mid (P := Tryd.prog) w9 w.heap.size 0 63 C _ HB9.out.range Tryd.underlying63 rfl HI.out
  refine bodyPost_ret (v := .tuple #[.agg C.toArray, .int .i64 n]) (by simp [results, Tryd.results20, asAddr, hld]) rfl ?_
  have hbw := HA.out.trans (HB.out.mono HA.out.size)
  refine ⟨hbw.trans (HC9.out.below hbw.size fun b h => Nat.le_of_eq h.symm), C, n, rfl, HL.out, H1.out, HN.out.imp id fun ⟨q1, q2⟩ => ⟨q1, q2.imp (fun ⟨x, e1, e2, e3⟩ => ⟨x, e1, e2, ?_⟩) id⟩⟩
  exact Sh.rep_to (fun b hb hlt => ⟨Nat.lt_of_lt_of_le hlt HC9.out.size, HC9.out.block b hlt fun e => by simp at hb; omega⟩) (fun b hb _ => by simp at hb; omega) _ _ _ e3

end Go.Proofs.YtjjgmkfkmckkoaaDoor

/- Codec's laws: calls whose answers the document fixes (awake). -/
namespace Go.Proofs.YtjjgmkfkmckkoaaDoor
open Go.RowKit Go.Maps

theorem u8s_at {w : World} {S : Nat → Prop} {A : Option Addr} {n cap : Nat} {bs : List UInt8} (h : Cs w S 1 (.slice A n cap) n (u8s bs)) (i : Nat) (hi : i < bs.length) (hn : n = bs.length) : ∃ b off, A = some ⟨b, off, none⟩ ∧ S b ∧ b < w.heap.size ∧ w.cell? ⟨b, off + i, none⟩ = some (.int .u8 (bs[i]'hi).toNat) := by
  obtain ⟨_, A', cap', e, _, _, hp⟩ := h
  injection e with e1 _ e3
  subst e1 e3
  obtain ⟨b, off, rfl, hS, hlt, hc⟩ := hp (by omega)
  exact ⟨b, off, rfl, hS, hlt, hc i _ (u8s_get bs i hi)⟩
/-- The empty record's bytes. -/
def rec0 : List UInt8 := tRecord.enc ((0 : Int), [], [], ())
theorem rec0_len : rec0.length = 56 := by decide
theorem rec0_7 : (rec0[7]'(by rw [rec0_len]; decide)).toNat = 3 := by decide
theorem rec0_rep (w : World) : tRecord.rep w (fun _ => False) ((0 : Int), [], [], ()) [.int .i64 0, .slice none 0 0, .slice none 0 0] :=
  ⟨[.int .i64 0], [.slice none 0 0, .slice none 0 0], rfl, ⟨rfl, by decide⟩, [.slice none 0 0], [.slice none 0 0], rfl, ⟨_, [], rfl, Cs.nil_ _ _ _, .nil⟩, [.slice none 0 0], [], rfl, ⟨_, [], rfl, Cs.nil_ _ _ _, .nil⟩, rfl⟩
theorem rec0_dec (w : World) : tRecord.dec rec0 = some ((0 : Int), [], [], ()) := Sh.dec_enc tRecord ((0 : Int), [], [], ()) (Sh.rep_wf tRecord _ _ (rec0_rep w)) (by show rec0.length < _; rw [rec0_len]; decide)
theorem tup_dec (fs : Fs) (b : List UInt8) : (Sh.tup fs).dec b = match splitB b with | none => none | some l => fs.decs l := rfl
theorem noughts_dec : tRecord.dec (List.replicate 8 0) = none := by
  rw [tup_dec, show splitB (List.replicate 8 0) = some [] by decide]
  rfl

set_option maxHeartbeats 4000000 in
set_option maxRecDepth 100000 in
theorem awake_any (w : World) {sent : Value} (hp : Pk w sent) : Calls Tryd.prog 8 #[] w fun e w' => e = .returned (.bool true) ∧ Below w.heap.size w w' := by
  obtain ⟨Y, hY⟩ : ∃ Y : List UInt8, Y = List.replicate 8 0 := ⟨_, rfl⟩
  have hYl : Y.length = 8 := by rw [hY, List.length_replicate]
  have hYd : tRecord.dec Y = none := by rw [hY]; exact noughts_dec
  have hmk8 : ∀ u, (Instr.makeSlice 28 (.int .i64 8) (.int .i64 8)).run Tryd.prog u = .ok (.slice (some ⟨u.heap.size, 0, none⟩) 8 8) (u.alloc (.cells (u8s Y).toArray 5)) := fun u => by rw [hY]; exact run_make_bytes 8 (by decide) u
  have HYL := Lib.hid hYl
  have HYD := Lib.hid hYd
  obtain ⟨Z, hZ⟩ : ∃ Z : List UInt8, Z = List.replicate 262145 0 := ⟨_, rfl⟩
  have hZl : Z.length = 262145 := by rw [hZ, List.length_replicate]
  have hmkZ : ∀ u, (Instr.makeSlice 28 (.int .i64 262145) (.int .i64 262145)).run Tryd.prog u = .ok (.slice (some ⟨u.heap.size, 0, none⟩) 262145 262145) (u.alloc (.cells (u8s Z).toArray 5)) := fun u => by rw [hZ]; exact run_make_bytes 262145 (by decide) u
  have HMK8 := Lib.hid hmk8
  have HMKZ := Lib.hid hmkZ
  have HZL := Lib.hid hZl
  clear hmk8 hZ hmkZ hZl hY hYl hYd
  have HR := Lib.hid (record_any w (rec0_rep w) (by show rec0.length ≤ _; rw [rec0_len]; decide))
  go_enter Tryd.func8, Tryd.ntmps8
  go_wp2_with fail
  refine HR.out.mono ?_
  rintro e w1 ⟨v1, rfl, f1⟩
  have f1 : Fresh w w1 v1 rec0 := f1
  have HP1 := Lib.hid (hp.below f1.2)
  have HRD := Lib.hid (ReadRecord_any w1 f1.1 HP1.out)
  have HB1 := Lib.hid f1.2
  have HF1 := Lib.hid f1.1
  obtain ⟨A1, c1, rfl⟩ := f1.1.form
  rw [rec0_len] at HRD
  simp only [rec0_len]
  clear f1 HR
  go_wp2_with fail
  refine HRD.out.mono ?_
  rintro e w2 ⟨hb2, C, n, rfl, hl, h1, hn⟩
  obtain ⟨e0, hx, rfl⟩ : ∃ e0 : Unit, tRecord.rep w2 (fun b => w1.heap.size ≤ b) ((0 : Int), [], [], ()) C ∧ n = 0 := by
    rcases hn with ⟨h1, _⟩ | ⟨_, ⟨x, hd, h2, h3⟩ | ⟨hd, _⟩⟩
    · rw [rec0_len] at h1; omega
    · rw [rec0_dec w] at hd; injection hd with hd; subst hd; exact ⟨(), h3, h2⟩
    · rw [rec0_dec w] at hd; cases hd
  obtain ⟨_, _, rfl, ⟨rfl, _⟩, _, _, rfl, ⟨q1, _, rfl, hq1, _⟩, _, _, rfl, ⟨q2, _, rfl, hq2, _⟩, rfl⟩ := hx
  obtain ⟨A2, c2, e2⟩ : ∃ A c, q1 = .slice A 0 c := hq1.form
  obtain ⟨A3, c3, e3⟩ : ∃ A c, q2 = .slice A 0 c := hq2.form
  subst e2 e3
  simp only [nk_t, List.cons_append, List.nil_append, List.append_nil]
  have HB2 := Lib.hid (HB1.out.trans (hb2.mono HB1.out.size))
  have hx7 := u8s_at (HF1.out.below hb2).1 7 (by rw [rec0_len]; decide) rfl
  obtain ⟨b7, o7, rfl, hS7, hlt7, hc7⟩ := hx7
  have hs12 := hb2.size
  have hal3 := (Below.refl w2.heap.size w2).alloc (Nat.le_refl _) (.cells #[.int .i64 0, .slice A2 0 c2, .slice A3 0 c3] 63)
  have h8 := Bs.of_new (w2.alloc (.cells #[.int .i64 0, .slice A2 0 c2, .slice A3 0 c3] 63)) 5 Y (by rw [HYL.out]; decide) (0, 0)
  rw [HYL.out, show (w2.alloc (.cells #[.int .i64 0, .slice A2 0 c2, .slice A3 0 c3] 63)).heap.size = w2.heap.size + 1 by simp] at h8
  have hal4 := hal3.alloc (by simp) (.cells (u8s Y).toArray 5)
  have HRD8 := Lib.hid (ReadRecord_any _ h8 ((HP1.out.below hb2).below hal4))
  have HX := Lib.hid ((Blk.new w2 63 #[.int .i64 0, .slice A2 0 c2, .slice A3 0 c3]).alloc (.cells (u8s Y).toArray 5))
  have HAL4 := Lib.hid hal4
  have hb2' := hb2
  have hmk8 := HMK8.out
  have HC7 := Lib.hid hc7
  clear h8 hal3 hal4 hb2 hq1 hq2 HRD hl h1 hn hc7
  go_wp2_with fail
  refine HRD8.out.mono ?_
  rintro e w3 ⟨hb3, C, n, rfl, hl, h1, hn⟩
  obtain rfl : n = 5 := by
    rcases hn with ⟨h1, _⟩ | ⟨_, ⟨x, hd, _⟩ | ⟨_, h2⟩⟩
    · rw [HYL.out] at h1; omega
    · rw [HYD.out] at hd; cases hd
    · exact h2
  have hl : C.length = 3 := hl
  have HL := Lib.hid hl
  have HI := Lib.hid (show (Tryd.prog.info? 63).map (·.size) = some C.length from by rw [hl]; kernel_rfl)
  have H1 := Lib.hid h1
  have HX3 := Lib.hid (HX.out.below hb3 HX.out.lt)
  have HB3 := Lib.hid ((HB2.out.trans (HAL4.out.mono HB2.out.size)).trans (hb3.mono (HB2.out.trans (HAL4.out.mono HB2.out.size)).size))
  have HC73 := Lib.hid ((World.cell?_of_block (a := ⟨b7, o7 + 7, none⟩) (hb3.block b7 (Nat.lt_of_lt_of_le hlt7 HAL4.out.size))).trans ((World.cell?_of_block (a := ⟨b7, o7 + 7, none⟩) (HAL4.out.block b7 hlt7)).trans HC7.out))
  have hb73 : b7 < w3.heap.size := Nat.lt_of_lt_of_le hlt7 (Nat.le_trans HAL4.out.size hb3.size)
  have HP3 := Lib.hid ((((HP1.out.below hb2').below HAL4.out)).below hb3)
  have hmkZ := HMKZ.out
  clear hmk8 hb3 HRD8 hl h1 hn HX
  go_wp2_with (refine wpList_store_blk (cs0 := [.int .i64 0, .slice none 0 0, .slice none 0 0]) (cs := C) rfl 63 _ _ rfl (Blk.new w3 _ _) rfl rfl (by rw [HL.out]; rfl) HI.out H1.out ?_; intro w4 hb4 hc4; have HC4 := Lib.hid (show Chg (fun _ => False) w3 w4 from ((Chg.refl _ w3).alloc _).trans hc4 fun b h => .inr (Nat.le_of_eq h.symm)); clear hb4 hc4)
  have hb34 := HC4.out.below (Nat.le_refl _) fun b h => h.elim
  have hZ8 := Bs.of_new w4 5 Z (by rw [HZL.out]; decide) (0, 0)
  rw [HZL.out] at hZ8
  have hal6 := (Below.refl w4.heap.size w4).alloc (Nat.le_refl _) (.cells (u8s Z).toArray 5)
  have HRD9 := Lib.hid (ReadRecord_any _ hZ8 ((HP3.out.below hb34).below hal6))
  have HX4 := Lib.hid (HX3.out.below hb34 HX3.out.lt)
  have HC74 := Lib.hid ((World.cell?_of_block (a := ⟨b7, o7 + 7, none⟩) (hb34.block b7 hb73)).trans HC73.out)
  have hb74 := Nat.lt_of_lt_of_le hb73 hb34.size
  have HB4 := Lib.hid (HB3.out.trans (hb34.mono HB3.out.size))
  have HAL6 := Lib.hid hal6
  clear hZ8 hal6 hb34 HX3 HC73 HB3 HP3
  refine HRD9.out.mono ?_
  rintro e w5 ⟨hb5, C', n, rfl, hl, h1, hn⟩
  obtain rfl : n = 4 := by
    rcases hn with ⟨_, h1⟩ | ⟨h1, _⟩
    · exact h1
    · rw [HZL.out] at h1; omega
  have hl : C'.length = 3 := hl
  have HL' := Lib.hid hl
  have HI' := Lib.hid (show (Tryd.prog.info? 63).map (·.size) = some C'.length from by rw [hl]; kernel_rfl)
  have H1' := Lib.hid h1
  have hbx : Below w4.heap.size w4 w5 := HAL6.out.trans (hb5.mono HAL6.out.size)
  have hx5 := (HX4.out.below hbx HX4.out.lt)
  have hxc := hx5.cell
  have hc5 := (World.cell?_of_block (a := ⟨b7, o7 + 7, none⟩) (hbx.block b7 hb74)).trans HC74.out
  rw [show ((rec0[7]'(by rw [rec0_len]; decide)).toNat : Int) = 3 from by rw [rec0_7]; rfl] at hc5
  have HB5 := Lib.hid (HB4.out.trans (hbx.mono HB4.out.size))
  have hb75 := Nat.lt_of_lt_of_le hb74 hbx.size
  have hx5l := hx5.lt
  have HXC := Lib.hid hxc
  have HC5 := Lib.hid hc5
  clear hl h1 hn hbx hx5 HC74 HX4 HB4 hb5 hmkZ hxc hc5
  go_wp2_with (refine wpList_store_blk (cs0 := [.int .i64 0, .slice none 0 0, .slice none 0 0]) (cs := C') rfl 63 _ _ rfl (Blk.new w5 _ _) rfl rfl (by rw [HL'.out]; rfl) HI'.out H1'.out ?_; intro w6 hb6 hc6; have HC6 := Lib.hid (show Chg (fun _ => False) w5 w6 from ((Chg.refl _ w5).alloc _).trans hc6 fun b h => .inr (Nat.le_of_eq h.symm)); clear hb6 hc6; have hxc : ∀ i, w6.cell? ⟨w2.heap.size, i, none⟩ = _ := fun i => (World.cell?_of_block (a := ⟨w2.heap.size, i, none⟩) (HC6.out.block w2.heap.size hx5l id)).trans (HXC.out i); have hc7 : w6.cell? ⟨b7, o7 + 7, none⟩ = some (.int .u8 3) := (World.cell?_of_block (a := ⟨b7, o7 + 7, none⟩) (HC6.out.block b7 hb75 id)).trans HC5.out)
  go_ret
  exact ⟨rfl, HB5.out.trans (HC6.out.below HB5.out.size fun b h => h.elim)⟩

end Go.Proofs.YtjjgmkfkmckkoaaDoor

/- Codec's reference: numbers as bytes, parts joined. -/
namespace Go.Proofs.YtjjgmkfkmckkoaaDoor
open Go.RowKit Go.Maps

theorem leBytes_get' : ∀ (k v i : Nat), i < k → (Lib.leBytes k v)[i]? = some ((v / 256 ^ i) % 256).toUInt8
  | 0, _, _, h => by omega
  | k + 1, v, 0, _ => by simp [Lib.leBytes]
  | k + 1, v, i + 1, h => by
    rw [Lib.leBytes, List.getElem?_cons_succ, leBytes_get' k (v / 256) i (by omega), Nat.div_div_eq_div_mul, Nat.pow_succ, Nat.mul_comm 256]
theorem be8_get (v i : Nat) (h : i < 8) : (be8 v)[i]? = some ((v / 2 ^ (56 - 8 * i)) % 256).toUInt8 := by
  rw [be8, Lib.beBytes, List.getElem?_reverse (by rw [Lib.leBytes_length]; omega), Lib.leBytes_length, leBytes_get' 8 v _ (by omega), show (256 : Nat) = 2 ^ 8 from rfl, ← Nat.pow_mul, show 8 * (8 - 1 - i) = 56 - 8 * i by omega]
theorem be8_byte (v i : Nat) (h : i < 8) : (((v / 2 ^ (56 - 8 * i)) % 256 : Nat) : Int) = (((be8 v)[i]'(by rw [be8_length]; exact h)).toNat : Int) := by
  have := be8_get v i h
  rw [List.getElem?_eq_getElem (by rw [be8_length]; exact h)] at this
  injection this with e
  rw [e, Nat.toUInt8, UInt8.toNat_ofNat']
  generalize v / 2 ^ (56 - 8 * i) = q
  congr 1
  omega

set_option maxHeartbeats 1000000 in
set_option maxRecDepth 100000 in
theorem rNum_any (w : World) (v : Nat) (_hv : v < 18446744073709551616) : Calls Tryd.prog 43 #[.int .u64 v] w fun e w' => ∃ v', e = .returned v' ∧ Fresh w w' v' (be8 v) := by
  have hby : ∀ k, k < 8 → ((v : Int) / 2 ^ (56 - 8 * k)) % 256 = (((be8 v).getD k 0).toNat : Int) := fun k hk => by
    have := be8_byte v k hk
    rw [List.getD_eq_getElem?_getD, List.getElem?_eq_getElem (by rw [be8_length]; exact hk), Option.getD_some, ← this]
    push_cast; rfl
  have hL : (be8 v).length = 8 := be8_length v
  obtain ⟨L, hLe⟩ : ∃ L, L = be8 v := ⟨_, rfl⟩
  rw [← hLe] at hby hL ⊢
  have HBY := Lib.hid hby
  have HL := Lib.hid hL
  clear hby hL hLe
  go_enter Tryd.func43, Tryd.ntmps43
  go_wp2_with fail
  go_loopw [3, 4] (fun o i wr => ∃ k : Nat, k ≤ 8 ∧ i = .int .i64 k ∧ Own wr 5 1 o k (u8s (L.take k)) ∧ (∀ b, o.ownBlock = some b → w.heap.size ≤ b) ∧ Below w.heap.size w wr) (fun _ i _ => 8 - (intOf i).toNat)
  case atStart =>
    have hal := (Below.refl w.heap.size w).alloc (Nat.le_refl _) (.cells #[] 5)
    exact ⟨0, by omega, rfl, Own.empty w 5 1, fun b hb => by simp [Value.ownBlock] at hb; omega, hal⟩
  case round =>
    obtain ⟨k, hk, rfl, ho, hob, hbl⟩ := hrel
    obtain ⟨Ao, co, rfl⟩ := ho.form
    have HO := Lib.hid ho
    have HOB := Lib.hid hob
    have HBL := Lib.hid hbl
    clear ho hob
    by_cases hlt : k < 8
    · have hbk := HBY.out k hlt
      obtain ⟨x, hx⟩ : ∃ x, x = L.getD k 0 := ⟨_, rfl⟩
      rw [← hx] at hbk
      have htk : L.take (k + 1) = L.take k ++ [x] := by
        rw [List.take_succ_eq_append_getElem (by rw [HL.out]; exact hlt), hx, List.getD_eq_getElem?_getD, List.getElem?_eq_getElem (by rw [HL.out]; exact hlt), Option.getD_some]
      have HTK := Lib.hid htk
      have hal := (Below.refl wr.heap.size wr).alloc (Nat.le_refl _) (.cells #[.int .u8 x.toNat] 5)
      have HAL := Lib.hid hal
      have HO2 := Lib.hid (show Own (wr.alloc (.cells #[.int .u8 x.toNat] 5)) 5 1 (.slice Ao k co) k (u8s (L.take k)) from own_keep HO.out fun b hb => hal.block b (own_lt HO.out hb))
      have HS2 := Lib.hid (Cs.of_new wr 5 (size := 1) 1 (cs := [.int .u8 x.toNat]) rfl (by simp only [maxLen]; decide))
      clear hx htk hal
      go_wp2_with (at_builtin; refine wpList_app _ rfl _ _ _ rfl Tryd.underlying28 info_u8 rfl (by decide) HO2.out rfl HS2.out rfl (by simp [Value.oneCell']) (by simp only [maxLen]; omega) (by omega) ?_; intro v6 w6 ho6 hc6 hnil6 hat6; clear hnil6; have HO6 := Lib.hid ho6; clear ho6; have HC6 := Lib.hid hc6; clear hc6; have HAT6 := Lib.hid hat6; clear hat6)
      have hsz := HBL.out.size
      have hsa := HAL.out.size
      refine ⟨⟨k + 1, by omega, by push_cast; rfl, by rw [HTK.out]; simpa [u8s] using HO6.out, fun b hb => ?_, (HBL.out.trans (HAL.out.mono hsz)).trans (HC6.out.below (by omega) fun b h => HOB.out b h)⟩, by simp only [intOf]; omega⟩
      rcases HAT6.out with h | h
      · exact HOB.out b (h ▸ hb)
      · rw [h] at hb; injection hb with hb; omega
    · have hk' : k = 8 := by omega
      subst hk'
      go_wp2_with fail
      go_ret
      have h1 := HO.out
      rw [show L.take 8 = L from List.take_of_length_le (by rw [HL.out]; omega)] at h1
      exact ⟨_, rfl, Fresh.of_own (by rw [HL.out]; exact h1) HBL.out HOB.out (by rw [HL.out]; omega)⟩

set_option maxHeartbeats 1000000 in
set_option maxRecDepth 100000 in
theorem rnumber_any (w : World) (v : Nat) (_hv : v < 18446744073709551616) : Calls Tryd.prog 66 #[.int .u64 v, .int .i64 8] w fun e w' => ∃ v', e = .returned v' ∧ Own w' 5 1 v' 8 (u8s (be8 v)) ∧ (∀ b, v'.ownBlock = some b → w.heap.size ≤ b) ∧ Below w.heap.size w w' := by
  have hby : ∀ k, k < 8 → ((v : Int) / 2 ^ (8 * (7 - k))) % 256 = (((be8 v).getD k 0).toNat : Int) := fun k hk => by
    rw [show 8 * (7 - k) = 56 - 8 * k by omega]
    have := be8_byte v k hk
    rw [List.getD_eq_getElem?_getD, List.getElem?_eq_getElem (by rw [be8_length]; exact hk), Option.getD_some, ← this]
    push_cast; rfl
  have hL : (be8 v).length = 8 := be8_length v
  obtain ⟨L, hLe⟩ : ∃ L, L = be8 v := ⟨_, rfl⟩
  rw [← hLe] at hby hL ⊢
  have HBY := Lib.hid hby
  have HL := Lib.hid hL
  clear hby hL hLe
  go_enter Tryd.func66, Tryd.ntmps66
  go_wp2_with fail
  go_loopw [5, 6] (fun o i wr => ∃ k : Nat, k ≤ 8 ∧ i = .int .i64 (7 - (k : Int)) ∧ Own wr 5 1 o k (u8s (L.take k)) ∧ (∀ b, o.ownBlock = some b → w.heap.size ≤ b) ∧ Below w.heap.size w wr) (fun _ i _ => (intOf i + 1).toNat)
  case atStart =>
    have hal := (Below.refl w.heap.size w).alloc (Nat.le_refl _) (.cells #[] 5)
    exact ⟨0, by omega, rfl, Own.empty w 5 1, fun b hb => by simp [Value.ownBlock] at hb; omega, hal⟩
  case round =>
    obtain ⟨k, hk, rfl, ho, hob, hbl⟩ := hrel
    obtain ⟨Ao, co, rfl⟩ := ho.form
    have HO := Lib.hid ho
    have HOB := Lib.hid hob
    have HBL := Lib.hid hbl
    clear ho hob
    by_cases hlt : k < 8
    · have hbk := HBY.out k hlt
      obtain ⟨x, hx⟩ : ∃ x, x = L.getD k 0 := ⟨_, rfl⟩
      rw [← hx] at hbk
      have htk : L.take (k + 1) = L.take k ++ [x] := by
        rw [List.take_succ_eq_append_getElem (by rw [HL.out]; exact hlt), hx, List.getD_eq_getElem?_getD, List.getElem?_eq_getElem (by rw [HL.out]; exact hlt), Option.getD_some]
      have HTK := Lib.hid htk
      have hal := (Below.refl wr.heap.size wr).alloc (Nat.le_refl _) (.cells #[.int .u8 x.toNat] 5)
      have HAL := Lib.hid hal
      have HO2 := Lib.hid (show Own (wr.alloc (.cells #[.int .u8 x.toNat] 5)) 5 1 (.slice Ao k co) k (u8s (L.take k)) from own_keep HO.out fun b hb => hal.block b (own_lt HO.out hb))
      have HS2 := Lib.hid (Cs.of_new wr 5 (size := 1) 1 (cs := [.int .u8 x.toNat]) rfl (by simp only [maxLen]; decide))
      clear hx htk hal
      go_wp2_with (at_builtin; refine wpList_app _ rfl _ _ _ rfl Tryd.underlying28 info_u8 rfl (by decide) HO2.out rfl HS2.out rfl (by simp [Value.oneCell']) (by simp only [maxLen]; omega) (by omega) ?_; intro v6 w6 ho6 hc6 hnil6 hat6; clear hnil6; have HO6 := Lib.hid ho6; clear ho6; have HC6 := Lib.hid hc6; clear hc6; have HAT6 := Lib.hid hat6; clear hat6)
      have hsz := HBL.out.size
      have hsa := HAL.out.size
      refine ⟨⟨k + 1, by omega, by congr 1; push_cast; omega, by rw [HTK.out]; simpa [u8s] using HO6.out, fun b hb => ?_, (HBL.out.trans (HAL.out.mono hsz)).trans (HC6.out.below (by omega) fun b h => HOB.out b h)⟩, by simp only [intOf]; omega⟩
      rcases HAT6.out with h | h
      · exact HOB.out b (h ▸ hb)
      · rw [h] at hb; injection hb with hb; omega
    · have hk' : k = 8 := by omega
      subst hk'
      go_wp2_with fail
      go_ret
      have h1 := HO.out
      rw [show L.take 8 = L from List.take_of_length_le (by rw [HL.out]; omega)] at h1
      exact ⟨_, rfl, h1, HOB.out, HBL.out⟩

end Go.Proofs.YtjjgmkfkmckkoaaDoor

/- Codec's reference: parts joined. -/
namespace Go.Proofs.YtjjgmkfkmckkoaaDoor
open Go.RowKit Go.Maps

set_option maxHeartbeats 2000000 in
set_option maxRecDepth 100000 in
theorem rJoin_any (w : World) {S : Nat → Prop} {v : Value} {rows : List (List UInt8)} (h : Bsr w S v rows) (hl : (joinB rows).length ≤ 140737488355328) (hS : ∀ b, S b → b < w.heap.size) :
    Calls Tryd.prog 42 #[v] w fun e w' => ∃ v', e = .returned v' ∧ Fresh w w' v' (joinB rows) := by
  obtain ⟨A, cap, rfl⟩ := h.form
  have H := Lib.hid h; clear h
  have hc := joinP_count rows
  rw [joinB_length] at hl
  have HA := Lib.hid (rnumber_any w rows.length (by omega))
  have hw := u64_wrap_nat rows.length (by omega)
  go_enter Tryd.func42, Tryd.ntmps42
  go_wp2_with fail
  refine HA.out.mono ?_
  rintro e w1 ⟨v1, rfl, ho, hv, hb1⟩
  obtain ⟨B0, hB0⟩ : ∃ B0, B0 = be8 rows.length := ⟨_, rfl⟩
  have ho : Own w1 5 1 v1 (B0 ++ joinP (rows.take 0)).length (u8s (B0 ++ joinP (rows.take 0))) := by
    rw [List.take_zero, show joinP [] = [] from rfl, List.append_nil, hB0, be8_length]; exact ho
  have hB8 : B0.length = 8 := by rw [hB0, be8_length]
  have HB8 := Lib.hid hB8
  have HB0 := Lib.hid hB0
  clear hB8 hB0 hw HA
  go_wp2_with fail
  go_loopw [3, 4] (fun o i wr => ∃ k : Nat, k ≤ rows.length ∧ i = .int .i64 k ∧ Own wr 5 1 o (B0 ++ joinP (rows.take k)).length (u8s (B0 ++ joinP (rows.take k))) ∧ (∀ b, o.ownBlock = some b → w.heap.size ≤ b) ∧ Below w.heap.size w wr) (fun _ i _ => rows.length - (intOf i).toNat)
  case atStart => exact ⟨0, Nat.zero_le _, rfl, ho, hv, hb1⟩
  case round =>
    obtain ⟨k, hk, rfl, ho, hv, hbl⟩ := hrel
    by_cases hlt : k < rows.length
    · obtain ⟨ba, oa, ua, rfl, hca, hua, hblt, hSb⟩ := (H.out.below hbl).at_ hlt
      have hT := joinP_take_le rows k
      have hT1 := joinP_take_le rows (k + 1)
      have hts := joinP_take_succ rows k hlt
      obtain ⟨x, hx⟩ : ∃ x, x = rows[k] := ⟨_, rfl⟩
      rw [← hx] at hua hts
      have hlen : (joinP (rows.take (k + 1))).length = (joinP (rows.take k)).length + 8 + x.length := by rw [hts, List.length_append, List.length_append, be8_length]
      obtain ⟨J, hJ⟩ : ∃ J, J = joinP (rows.take k) := ⟨_, rfl⟩
      rw [← hJ] at ho hT hts hlen
      obtain ⟨J', hJ'⟩ : ∃ J', J' = joinP (rows.take (k + 1)) := ⟨_, rfl⟩
      rw [← hJ'] at hT1 hts hlen
      have hB8 := HB8.out
      have hx2 := hua.2
      obtain ⟨Ax, cx, rfl⟩ := hua.form
      have HNUM := Lib.hid (rnumber_any wr x.length (by omega))
      have HUA := Lib.hid hua
      have HV := Lib.hid hv
      have HTS := Lib.hid hts
      have hw := u64_wrap_nat x.length (by omega)
      obtain ⟨m, hm⟩ : ∃ m, m = (B0 ++ J).length := ⟨_, rfl⟩
      have hml : m + 8 + x.length ≤ 140737488355328 := by rw [hm, List.length_append]; omega
      have HML := Lib.hid hml
      have HM := Lib.hid hm
      rw [← hm] at ho
      obtain ⟨Ao, co, rfl⟩ := ho.form
      have HO := Lib.hid ho
      have HCA := Lib.hid hca
      clear hua hv hts hx hJ hlen hT hT1 hx2 hB8 ho hm
      go_wp2_with fail
      refine HNUM.out.mono ?_
      rintro e w2 ⟨v2, rfl, ho2, hv2, hb2⟩
      have HO2 := Lib.hid (show Own w2 5 1 (.slice Ao m co) m (u8s (B0 ++ J)) from own_keep HO.out fun b hb => hb2.block b (own_lt HO.out hb))
      have HS2 := Lib.hid (show Cs w2 (fun b => wr.heap.size ≤ b) 1 v2 8 (u8s (be8 x.length)) from Cs.of_own ho2 hv2)
      obtain ⟨A2, c2, rfl⟩ := ho2.form
      have HUA2 := Lib.hid (HUA.out.below hb2)
      have hca2 : w2.cell? ⟨ba, oa + k, none⟩ = some (.slice Ax x.length cx) := (World.cell?_of_block (a := ⟨ba, oa + k, none⟩) (hb2.block ba hblt)).trans hca
      have HCA2 := Lib.hid hca2
      clear hw ho2 hca2 hca
      have hsb := hbl.size
      have hs2 := hb2.size
      go_wp2_with (first
        | (at_builtin; refine wpList_app _ rfl _ _ _ rfl Tryd.underlying28 info_u8 rfl (by decide) HO2.out rfl HS2.out rfl (u8s_one _) (by have := HML.out; simp only [maxLen]; omega) (by have := HML.out; omega) ?_; intro v3 w3 ho3 hg3 hnil3 hat3; clear hnil3
           obtain ⟨A3, c3, rfl⟩ := ho3.form
           have HO3 := Lib.hid ho3; clear ho3; have HG3 := Lib.hid hg3; clear hg3; have HAT3 := Lib.hid hat3; clear hat3
           have hca3 : w3.cell? ⟨ba, oa + k, none⟩ = some (.slice Ax x.length cx) := (World.cell?_of_block (a := ⟨ba, oa + k, none⟩) (HG3.out.block ba (Nat.lt_of_lt_of_le hblt hs2) fun h => by have h1 := HV.out ba h; have h2 := hS ba hSb; omega)).trans HCA2.out
           have HUA3 := Lib.hid (HUA2.out.chg HG3.out fun b hb h => by have h1 := HV.out b h; have h2 := hS b hb; omega))
        | (at_builtin; refine wpList_app _ rfl _ _ _ rfl Tryd.underlying28 info_u8 rfl (by decide) HO3.out rfl HUA3.out.1 rfl (u8s_one _) (by have := HML.out; simp only [maxLen]; omega) (by have := HML.out; omega) ?_; intro v4 w4 ho4 hg4 hnil4 hat4; clear hnil4
           have HO4 := Lib.hid ho4; clear ho4; have HG4 := Lib.hid hg4; clear hg4; have HAT4 := Lib.hid hat4; clear hat4))
      have hv3 : ∀ b, (Value.slice A3 (m + 8) c3).ownBlock = some b → w.heap.size ≤ b := fun b hb => HAT3.out.elim (fun h => HV.out b (h ▸ hb)) fun h => by rw [h] at hb; injection hb with hb; omega
      have hs3 := HG3.out.size
      have hv4 : ∀ b, v4.ownBlock = some b → w.heap.size ≤ b := fun b hb => HAT4.out.elim (fun h => hv3 b (h ▸ hb)) fun h => by rw [h] at hb; injection hb with hb; omega
      have hbl3 : Below w.heap.size w w3 := (hbl.trans (hb2.mono hsb)).trans (HG3.out.below (by omega) fun b h => HV.out b h)
      refine ⟨⟨k + 1, by omega, by push_cast; rfl, ?_, hv4, hbl3.trans (HG4.out.below hbl3.size fun b h => hv3 b h)⟩, by simp only [intOf]; omega⟩
      have h1 := HO4.out
      have h2 : u8s (B0 ++ J) ++ u8s (be8 x.length) ++ u8s x = u8s (B0 ++ J') := by rw [HTS.out]; simp [u8s]
      have h3 : m + 8 + x.length = (B0 ++ J').length := by rw [HTS.out, HM.out]; simp [be8_length]; omega
      rw [h2, h3] at h1
      exact hJ' ▸ h1
    · have hk' : k = rows.length := by omega
      subst hk'
      rw [List.take_length] at ho
      have HO := Lib.hid ho
      have HV := Lib.hid hv
      clear ho hv
      go_wp2_with fail
      go_ret
      have h1 := HO.out
      have h2 : B0 ++ joinP rows = joinB rows := by rw [HB0.out]; rfl
      rw [h2] at h1
      exact ⟨_, rfl, Fresh.of_own h1 hbl HV.out (by rw [joinB_length]; omega)⟩

end Go.Proofs.YtjjgmkfkmckkoaaDoor

/- Codec's reference: what its encoders' walks share. -/
namespace Go.Proofs.YtjjgmkfkmckkoaaDoor
open Go.RowKit Go.Maps

theorem Bs.of_range {w : World} {S : Nat → Prop} {b off : Nat} {x : List UInt8} (hS : S b) (hlt : b < w.heap.size) (h : w.rangeAt b off (u8s x)) (hl : x.length ≤ 1000) : Bs w S (.slice (some ⟨b, off, none⟩) x.length x.length) x :=
  ⟨⟨by simp [u8s], _, _, rfl, Nat.le_refl _, by simp only [maxLen]; omega, fun _ => ⟨b, off, rfl, hS, hlt, fun j u hj => h j u hj⟩⟩, by omega⟩
theorem Bs.of_range32 {w : World} {S : Nat → Prop} {b off : Nat} {x : List UInt8} (hS : S b) (hlt : b < w.heap.size) (h : w.rangeAt b off (u8s x)) (hl : x.length = 32) : Bs w S (.slice (some ⟨b, off, none⟩) 32 32) x := by
  have := Bs.of_range hS hlt h (by omega)
  rwa [hl] at this
theorem Bss.empty (w : World) (S T : Nat → Prop) (hS : S w.heap.size) : Bss (w.alloc (.cells #[] 28)) S T (.slice (some ⟨w.heap.size, 0, none⟩) 0 0) [] :=
  ⟨[], Own.empty w 28 1, fun k h => by simp [Value.ownBlock] at h; exact h ▸ hS, fun i x u h => by simp at h⟩
theorem Bss.empty1 (w : World) (o : Obj) : Bss ((w.alloc o).alloc (.cells #[] 28)) (fun b => w.heap.size + 1 ≤ b) (fun b => w.heap.size + 1 ≤ b) (.slice (some ⟨w.heap.size + 1, 0, none⟩) 0 0) [] := by
  have := Bss.empty (w.alloc o) (fun b => w.heap.size + 1 ≤ b) (fun b => w.heap.size + 1 ≤ b) (by simp)
  rwa [show (w.alloc o).heap.size = w.heap.size + 1 by simp] at this
theorem Bsr.drew_ {w : World} {S : Nat → Prop} {v : Value} {rows : List (List UInt8)} (h : Bsr w S v rows) : Bsr w.drew S v rows := by
  obtain ⟨vs, h1, h2⟩ := h
  exact ⟨vs, h1, h2⟩
theorem rNumI_any (w : World) (n : Int) : Calls Tryd.prog 43 #[.int .u64 (IntKind.u64.wrap n)] w fun e w' => ∃ v', e = .returned v' ∧ Fresh w w' v' (numB n) := by
  have := rNum_any w (n % 18446744073709551616).toNat (by omega)
  rw [show (((n % 18446744073709551616).toNat : Nat) : Int) = IntKind.u64.wrap n from by rw [show IntKind.u64 = nk false from rfl, wrap_u]; omega] at this
  exact this
theorem rNumU_any (w : World) (n : Int) (hn : (nk false).wrap n = n) : Calls Tryd.prog 43 #[.int .u64 n] w fun e w' => ∃ v', e = .returned v' ∧ Fresh w w' v' (numB n) := by
  have := rNumI_any w n
  rw [show IntKind.u64 = nk false from rfl, hn] at this
  exact this

end Go.Proofs.YtjjgmkfkmckkoaaDoor

/- Codec: reference: a signature. -/
namespace Go.Proofs.YtjjgmkfkmckkoaaDoor
open Go.RowKit Go.Maps
attribute [-simp] Tryd.isAgg23 Tryd.typeInfo23

set_option maxHeartbeats 8000000 in
set_option maxRecDepth 100000 in
theorem rSig_any (w : World) {S : Nat → Prop} {x : tSig.El} {cs : List Value} (h : tSig.rep w S x cs) (hl : (tSig.enc x).length ≤ 1099511627776) :
    Calls Tryd.prog 65 #[.agg cs.toArray] w fun e w' => ∃ v', e = .returned v' ∧ Fresh w w' v' (tSig.enc x) := by
  obtain ⟨x0, x1, _⟩ := x
  obtain ⟨c0, _, rfl, ⟨rfl, _⟩, c1, _, rfl, ⟨rfl, l1⟩, rfl⟩ := h
  simp only [nk_t]
  obtain ⟨C, hC⟩ : ∃ C, C = [Value.int .i64 x0] ++ (u8s x1 ++ ([])) := ⟨_, rfl⟩
  rw [← hC]
  have hf : ∀ w', Blk w' w.heap.size 51 C.toArray → w'.cell? ⟨w.heap.size, 0, none⟩ = some (.int .i64 x0) ∧ w'.rangeAt w.heap.size 1 (u8s x1) := fun w' hb => by
    have := hb.lies [[Value.int .i64 x0], u8s x1] [] (by rw [hC]; simp)
    simp only [Lies, List.length_cons, List.length_nil] at this
    obtain ⟨s0, s1, _⟩ := this
    exact ⟨Lies.one s0, s1⟩
  have HF := Lib.hid hf
  clear hf hC
  have L1 := Lib.hid l1; clear l1
  have hl' : (joinB [numB x0, x1]).length ≤ 1099511627776 := hl
  have HLL := Lib.hid hl'
  clear hl hl'
  go_enter Tryd.func65, Tryd.ntmps65
  go_wp2_with fail
  have hsz := (Blk.new w 51 C.toArray).lt
  have hb0 : Blk (w.alloc (.cells C.toArray 51)).drew w.heap.size 51 C.toArray := (Blk.new w 51 C.toArray).drew
  have hbw : Below w.heap.size w (w.alloc (.cells C.toArray 51)).drew := ((Below.refl w.heap.size w).alloc (Nat.le_refl _) _).drew
  have D1 := Lib.hid (Bs.of_range32 (S := fun b => b = w.heap.size) rfl hb0.lt ((HF.out _ hb0).2) L1.out)
  refine wp_region_hoist [0, 1, 2, 4, 5] [3] [6, 7, 8] (fun w' => Blk w' w.heap.size 51 C.toArray)
    (by kernel_rfl) (by kernel_rfl) (by kernel_rfl) (by kernel_rfl) (by kernel_rfl) (by kernel_rfl) hb0 ?_
  (refine HoistK.yes (by rfl) (by kernel_rfl) ⟨?_, fun w' hSw => ?_, ?_⟩; rotate_left; (· go_simp; try with_reducible rfl); simp only [Act.put, List.setIfInBounds_toArray, List.getElem_toArray, List.getElem_cons_zero, List.set_cons_succ, List.set_cons_zero])
  (refine HoistK.yes (by rfl) (by kernel_rfl) ⟨?_, fun w' hSw => ?_, ?_⟩; rotate_left; (· obtain ⟨s0, s1⟩ := HF.out _ hSw; go_simp; try with_reducible rfl); simp only [Act.put, List.setIfInBounds_toArray, List.getElem_toArray, List.getElem_cons_succ, List.getElem_cons_zero, List.set_cons_succ, List.set_cons_zero])
  (refine HoistK.yes (by rfl) (by kernel_rfl) ⟨?_, fun w' hSw => ?_, ?_⟩; rotate_left; (· go_simp; try with_reducible rfl); simp only [Act.put, List.setIfInBounds_toArray, List.getElem_toArray, List.getElem_cons_succ, List.getElem_cons_zero, List.set_cons_succ, List.set_cons_zero])
  (refine HoistK.yes (by rfl) (by kernel_rfl) ⟨?_, fun w' hSw => ?_, ?_⟩; rotate_left; (· go_simp; try with_reducible rfl); simp only [Act.put, List.setIfInBounds_toArray, List.getElem_toArray, List.getElem_cons_succ, List.getElem_cons_zero, List.set_cons_succ, List.set_cons_zero])
  (refine HoistK.yes (by rfl) (by kernel_rfl) ⟨?_, fun w' hSw => ?_, ?_⟩; rotate_left; (· go_simp; try with_reducible rfl); simp only [Act.put, List.setIfInBounds_toArray, List.getElem_toArray, List.getElem_cons_succ, List.getElem_cons_zero, List.set_cons_succ, List.set_cons_zero])
  refine HoistK.nil_ ?_
  simp only [opsAt, List.filterMap_cons, List.filterMap_nil, List.getElem?_toArray, List.getElem?_cons_succ, List.getElem?_cons_zero]
  have g0 : Got (w.alloc (.cells C.toArray 51)).drew (w.alloc (.cells C.toArray 51)).drew [] [] := Got.start (Below.refl _ _)
  refine Effects.cons_ fun _ hQ1 => ?_
  go_wp2_with fail
  refine (rNumI_any _ _).mono ?_
  rintro e u1 ⟨v1, rfl, f1⟩
  have g1 := g0.step f1
  have hb1 := hb0.below f1.2 hb0.lt
  clear f1
  go_wp2_with fail
  refine hQ1 _ _ hb1 (Effects.nil_ fun _ hQ2 => ?_)
  clear hQ1 hb0 g0
  have g2 := g1.old D1.out
  clear g1
  have hcs : ∀ v ∈ [v1, (.slice (some ⟨w.heap.size, 1, none⟩) 32 32)], v.cells = #[v] := fun v hv => by
    obtain ⟨i, hi, rfl⟩ := List.getElem_of_mem hv
    obtain ⟨y, _, hr⟩ := g2.2.get i hi
    obtain ⟨A, c, e⟩ := hr.form
    have e' : [v1, (.slice (some ⟨w.heap.size, 1, none⟩) 32 32)][i] = .slice A y.length c := e
    rw [e']; rfl
  refine wpList_rows rfl 2 _ rfl [v1, (.slice (some ⟨w.heap.size, 1, none⟩) 32 32)] rfl (by decide) (by decide) hcs (by simp [Act.eval]) ?_
  have hr : Bsr (u1.alloc (.cells [v1, (.slice (some ⟨w.heap.size, 1, none⟩) 32 32)].toArray 28)) (fun b => b < u1.heap.size + 1) (.slice (some ⟨u1.heap.size, 0, none⟩) 2 2) [numB x0, x1] := g2.row (by simp [maxLen]) 28
  have hj := rJoin_any _ hr (by have := HLL.out; omega) (fun b hb => by simpa using hb)
  have hbb : Below w.heap.size w (u1.alloc (.cells [v1, (.slice (some ⟨w.heap.size, 1, none⟩) 32 32)].toArray 28)) := (hbw.trans (g2.1.mono hbw.size)).alloc (hbw.trans (g2.1.mono hbw.size)).size _
  have HJ := Lib.hid hj
  have HBB := Lib.hid hbb
  clear hj hbb hr g2 hcs
  go_wp2_with fail
  refine HJ.out.mono ?_
  rintro e uz ⟨vz, rfl, fz⟩
  go_wp2_with fail
  go_ret
  exact ⟨vz, rfl, fz.1.sub fun b hb _ => ⟨Nat.le_trans HBB.out.size hb.1, hb.2⟩, HBB.out.trans (fz.2.mono HBB.out.size)⟩

end Go.Proofs.YtjjgmkfkmckkoaaDoor

/- Codec's reference: numbers. -/
namespace Go.Proofs.YtjjgmkfkmckkoaaDoor
open Go.RowKit Go.Maps

set_option maxHeartbeats 2000000 in
set_option maxRecDepth 100000 in
theorem rNums_any (w : World) {S : Nat → Prop} {v : Value} {l : List (i64).El} (h : (Sh.list i64).rep w S l [v]) (hl : ((Sh.list i64).enc l).length ≤ 1099511627776) :
    Calls Tryd.prog 68 #[v] w fun e w' => ∃ v', e = .returned v' ∧ Fresh w w' v' ((Sh.list i64).enc l) := by
  obtain ⟨A, cap, rfl, hlen, hat⟩ := list_at h
  have H := Lib.hid h; clear h
  have hl' : (joinB (l.map (i64).enc)).length ≤ 1099511627776 := hl
  have hcnt := joinP_count (l.map (i64).enc)
  rw [joinB_length] at hl'
  rw [List.length_map] at hcnt
  have HLL := Lib.hid hl
  clear hl hat
  go_enter Tryd.func68, Tryd.ntmps68
  go_wp2_with fail
  go_loopw [3, 4] (fun a i wr => ∃ k : Nat, k ≤ l.length ∧ i = .int .i64 k ∧ Bss wr (fun b => w.heap.size ≤ b) (fun b => w.heap.size ≤ b) a ((l.take k).map (i64).enc) ∧ Below w.heap.size w wr) (fun _ i _ => l.length - (intOf i).toNat)
  case atStart => exact ⟨0, Nat.zero_le _, rfl, Bss.empty w _ _ (Nat.le_refl _), (Below.refl w.heap.size w).alloc (Nat.le_refl _) _⟩
  case round =>
    obtain ⟨k, hk, rfl, hB, hbl⟩ := hrel
    by_cases hlt : k < l.length
    · obtain ⟨R, hR⟩ : ∃ R, R = (l.take k).map (i64).enc := ⟨_, rfl⟩
      rw [← hR] at hB
      have hRl : R.length = k := by rw [hR, List.length_map, List.length_take]; omega
      have hnext : (l.take (k + 1)).map (i64).enc = R ++ [(i64).enc l[k]] := by rw [List.take_succ_eq_append_getElem hlt, List.map_append, ← hR]; rfl
      obtain ⟨Aa, ca, rfl⟩ := hB.form
      obtain ⟨_, _, e, _, hat⟩ := list_at (Sh.rep_below H.out hbl)
      injection e with e1 e2 e3
      subst e1 e3
      obtain ⟨b, off, c, rfl, hca, hr, hcl, _, _⟩ := hat k hlt
      obtain ⟨x, hx⟩ : ∃ x, x = l[k] := ⟨_, rfl⟩
      rw [← hx] at hr hnext
      obtain ⟨rfl, _⟩ := hr
      have hcell := Lies.one hca
      have hcell : wr.cell? ⟨b, off + k, none⟩ = some (.int .i64 x) := by simpa [Sh.cells, nk] using hcell
      have hown : ∀ k, (Value.slice Aa R.length ca).ownBlock = some k → k < wr.heap.size := fun k hk => by obtain ⟨vs, ho, _⟩ := hB; exact own_lt ho hk
      have HB := Lib.hid hB
      have HN := Lib.hid hnext
      have HRL := Lib.hid hRl
      have HOWN := Lib.hid hown
      clear hB hca hcl hat hx hR hnext hRl hown
      go_wp2_with fail
      refine (rNumI_any _ _).mono ?_
      rintro e w1 ⟨v1, rfl, f1⟩
      have hb1 := hbl.trans (f1.2.mono hbl.size)
      obtain ⟨y, hy⟩ : ∃ y, y = (i64).enc x := ⟨_, rfl⟩
      have f1 : Fresh wr w1 v1 y := hy ▸ f1
      rw [← hy] at HN
      obtain ⟨A1, c1, rfl⟩ := f1.1.form
      obtain ⟨vs, ho, hS, hr⟩ := HB.out.below f1.2
      have hsz1 := f1.2.size
      have hal : Below w1.heap.size w1 (w1.alloc (.cells #[.slice A1 y.length c1] 28)) := (Below.refl _ w1).alloc (Nat.le_refl _) _
      have HAL := Lib.hid hal
      have HO := Lib.hid (show Own (w1.alloc (.cells #[.slice A1 y.length c1] 28)) _ _ _ _ _ from own_keep ho fun k hk => hal.block k (own_lt ho hk))
      have HS := Lib.hid hS
      have HR := Lib.hid (fun i x u h1 h2 => (hr i x u h1 h2).below hal)
      have HU := Lib.hid ((f1.1.1.below hal).sub (T := fun b => w.heap.size ≤ b ∧ (Value.slice Aa R.length ca).ownBlock ≠ some b) fun b hb _ => ⟨Nat.le_trans hbl.size hb.1, fun e => by have := HOWN.out b e; omega⟩)
      have HS2 := Lib.hid (Cs.of_new w1 28 (size := 1) 1 (cs := [.slice A1 y.length c1]) rfl (by simp only [maxLen]; decide))
      have H63 := Lib.hid (show R.length + 1 ≤ maxLen ∧ (R.length + 1) * 24 ≤ 140737488355328 from by have := HRL.out; refine ⟨by simp only [maxLen]; omega, by omega⟩)
      clear ho hS hr hal f1 hy
      go_wp2_with (at_builtin; refine wpList_app _ rfl _ _ _ rfl Tryd.underlying93 info_row rfl (by decide) HO.out rfl HS2.out rfl (by simp [Value.oneCell']) H63.out.1 H63.out.2 ?_; intro v3 w3 ho3 hg3 hnil3 hat3; clear hnil3; have HO3 := Lib.hid ho3; clear ho3; have HG3 := Lib.hid hg3; clear hg3; have HAT3 := Lib.hid hat3; clear hat3)
      have hpush := Bss.push HO.out HS.out HR.out HU.out HO3.out HG3.out HAT3.out (by have := hb1.size; have := HAL.out.size; omega)
      rw [← HN.out] at hpush
      refine ⟨⟨k + 1, by omega, by push_cast; rfl, hpush, (hb1.trans (HAL.out.mono hb1.size)).trans (HG3.out.below (Nat.le_trans hb1.size HAL.out.size) fun b h => HS.out b h)⟩, ?_⟩
      simp only [intOf]
      omega
    · have hk' : k = l.length := by omega
      rw [hk', List.take_length] at hB
      have hsm : ∀ x ∈ l.map (i64).enc, x.length ≤ 140737488355328 := fun x hx => by have := joinP_mem hx; omega
      have hj := rJoin_any _ ((hB.read hsm).lt_ (T := fun b => w.heap.size ≤ b) fun b h => h.elim id id) (by rw [joinB_length]; omega) fun b h => h.2
      have HJ := Lib.hid hj
      obtain ⟨R, hR⟩ : ∃ R, R = l.map (i64).enc := ⟨_, rfl⟩
      have HR := Lib.hid hR
      rw [← hR] at hB HJ
      obtain ⟨Aa, ca, rfl⟩ := hB.form
      clear hj hB hR hsm
      go_wp2_with fail
      refine HJ.out.mono ?_
      rintro e w1 ⟨v1, rfl, f1⟩
      go_wp2_with fail
      go_ret
      refine ⟨v1, rfl, ?_, hbl.trans (f1.2.mono hbl.size)⟩
      have := f1.1.sub (T := fun b => w.heap.size ≤ b ∧ Th w1 b) fun b hb _ => ⟨Nat.le_trans hbl.size hb.1, hb.2⟩
      rw [HR.out] at this
      exact this

end Go.Proofs.YtjjgmkfkmckkoaaDoor

/- Codec: reference: a certificate. -/
namespace Go.Proofs.YtjjgmkfkmckkoaaDoor
open Go.RowKit Go.Maps
attribute [-simp] Tryd.isAgg23 Tryd.typeInfo23 Tryd.isAgg51 Tryd.typeInfo51

set_option maxHeartbeats 8000000 in
set_option maxRecDepth 100000 in
theorem rQC_any (w : World) {S : Nat → Prop} {x : tQC.El} {cs : List Value} (h : tQC.rep w S x cs) (hl : (tQC.enc x).length ≤ 1099511627776) :
    Calls Tryd.prog 45 #[.agg cs.toArray] w fun e w' => ∃ v', e = .returned v' ∧ Fresh w w' v' (tQC.enc x) := by
  obtain ⟨x0, x1, x2, x3, x4, x5, _⟩ := x
  obtain ⟨c0, _, rfl, ⟨rfl, _⟩, c1, _, rfl, ⟨rfl, _⟩, c2, _, rfl, ⟨rfl, _⟩, c3, _, rfl, ⟨rfl, l3⟩, c4, _, rfl, r4, c5, _, rfl, r5, rfl⟩ := h
  obtain ⟨y4, rfl⟩ : ∃ y, c4 = [y] := by obtain ⟨v, _, e, _⟩ := r4; exact ⟨v, e⟩
  obtain ⟨y5, rfl⟩ : ∃ y, c5 = [y] := by obtain ⟨v, _, e, _⟩ := r5; exact ⟨v, e⟩
  obtain ⟨A5, cap5, rfl, hlen5, _⟩ := list_at r5
  have R4 := Lib.hid r4; clear r4
  have R5 := Lib.hid r5; clear r5
  simp only [nk_t]
  obtain ⟨C, hC⟩ : ∃ C, C = [Value.int .i64 x0] ++ ([Value.int .i64 x1] ++ ([Value.int .i64 x2] ++ (u8s x3 ++ ([y4] ++ ([Value.slice A5 (List.length (α := (tSig).El) x5) cap5] ++ ([])))))) := ⟨_, rfl⟩
  rw [← hC]
  have hf : ∀ w', Blk w' w.heap.size 43 C.toArray → w'.cell? ⟨w.heap.size, 0, none⟩ = some (.int .i64 x0) ∧ w'.cell? ⟨w.heap.size, 1, none⟩ = some (.int .i64 x1) ∧ w'.cell? ⟨w.heap.size, 2, none⟩ = some (.int .i64 x2) ∧ w'.rangeAt w.heap.size 3 (u8s x3) ∧ w'.cell? ⟨w.heap.size, 35, none⟩ = some y4 ∧ w'.cell? ⟨w.heap.size, 36, none⟩ = some (.slice A5 (List.length (α := (tSig).El) x5) cap5) := fun w' hb => by
    have := hb.lies [[Value.int .i64 x0], [Value.int .i64 x1], [Value.int .i64 x2], u8s x3, [y4], [Value.slice A5 (List.length (α := (tSig).El) x5) cap5]] [] (by rw [hC]; simp)
    simp only [Lies, u8s_length, l3, List.length_cons, List.length_nil] at this
    obtain ⟨s0, s1, s2, s3, s4, s5, _⟩ := this
    exact ⟨Lies.one s0, Lies.one s1, Lies.one s2, s3, Lies.one s4, Lies.one s5⟩
  have HF := Lib.hid hf
  clear hf hC
  have L3 := Lib.hid l3; clear l3
  have hl' : (joinB [numB x0, numB x1, numB x2, x3, (Sh.list i64).enc x4, (Sh.list tSig).enc x5]).length ≤ 1099511627776 := hl
  have HLL := Lib.hid hl'
  clear hl hl'
  have HE5 := Lib.hid (show ((Sh.list tSig).enc x5).length ≤ 1099511627776 from (by have h1 := HLL.out; rw [joinB_length] at h1; have h2 := joinP_mem (l := [numB x0, numB x1, numB x2, x3, (Sh.list i64).enc x4, (Sh.list tSig).enc x5]) (x := (Sh.list tSig).enc x5) (by simp); omega))
  have hcn5 : (List.length (α := (tSig).El) x5) ≤ 137438953472 := by
    have h1 := HE5.out
    have h2 := joinP_count (List.map (tSig).enc x5)
    have h3 : ((Sh.list tSig).enc x5).length = 8 + (joinP (List.map (tSig).enc x5)).length := joinB_length _
    rw [List.length_map] at h2
    omega
  have HEJ5 := Lib.hid (show (joinB (List.map (tSig).enc x5)).length ≤ 140737488355328 from by
    have h1 := HE5.out
    have h3 : ((Sh.list tSig).enc x5).length = 8 + (joinP (List.map (tSig).enc x5)).length := joinB_length _
    rw [joinB_length]
    omega)
  go_enter Tryd.func45, Tryd.ntmps45
  go_wp2_with fail
  have hbe := (Below.refl w.heap.size w).alloc (Nat.le_refl _) (.cells C.toArray 43)
  have hal0 : Below (w.heap.size + 1) (w.alloc (.cells C.toArray 43)) ((w.alloc (.cells C.toArray 43)).alloc (.cells #[] 28)) := (Below.refl _ _).alloc (by simp) _
  have hMb : w.heap.size < w.heap.size + 1 := by omega
  go_loopw [3, 4] (fun o i wr => ∃ k : Nat, k ≤ (List.length (α := (tSig).El) x5) ∧ i = .int .i64 k ∧ Bss wr (fun b => (w.heap.size + 1) ≤ b) (fun b => (w.heap.size + 1) ≤ b) o ((List.take k x5).map (tSig).enc) ∧ Below w.heap.size w wr ∧ (w.heap.size + 1) ≤ wr.heap.size ∧ Blk wr w.heap.size 43 C.toArray) (fun _ i _ => (List.length (α := (tSig).El) x5) - (intOf i).toNat)
  case atStart => exact ⟨0, Nat.zero_le _, rfl, Bss.empty1 w _, hbe.alloc (by simp) _, by simp, ((Blk.new w _ _).alloc _)⟩
  case round =>
    obtain ⟨k, hk, rfl, hB, hbl, hMz, hbox⟩ := hrel
    by_cases hlt : k < (List.length (α := (tSig).El) x5)
    · obtain ⟨R, hR⟩ : ∃ R, R = (List.take k x5).map (tSig).enc := ⟨_, rfl⟩
      rw [← hR] at hB
      have hRl : R.length = k := by rw [hR, List.length_map, List.length_take]; omega
      have hnext : (List.take (k + 1) x5).map (tSig).enc = R ++ [(tSig).enc (x5[k]'hlt)] := by rw [List.take_succ_eq_append_getElem hlt, List.map_append, ← hR]; rfl
      obtain ⟨Aa, ca, rfl⟩ := hB.form
      obtain ⟨_, _, e, _, hat⟩ := list_at (Sh.rep_below R5.out hbl)
      injection e with e1 e2 e3
      subst e1 e3
      obtain ⟨b, off, c, rfl, hca, hr, hcl, hblt, _⟩ := hat k hlt
      obtain ⟨x, hx⟩ : ∃ x, x = x5[k]'hlt := ⟨_, rfl⟩
      rw [← hx] at hr hnext
      have hsm2 : ((tSig).enc x).length ≤ 1099511627776 := by
        have h1 := joinP_mem (List.mem_map.2 ⟨x5[k]'hlt, List.getElem_mem hlt, rfl⟩ : (tSig).enc (x5[k]'hlt) ∈ List.map (tSig).enc x5)
        have h2 := HE5.out
        have h3 : ((Sh.list tSig).enc x5).length = 8 + (joinP (List.map (tSig).enc x5)).length := joinB_length _
        rw [hx]; omega
      have hinfo : (Tryd.prog.info? 51).map (·.size) = some c.length := by rw [hcl]; kernel_rfl
      have HCA := Lib.hid (show wr.rangeAt b (off + k * 33) c from hca)
      have HI := Lib.hid hinfo
      clear hinfo
      have HREP := Lib.hid hr
      have HSM := Lib.hid hsm2
      clear hr hsm2
      have hown : ∀ k, (Value.slice Aa R.length ca).ownBlock = some k → k < wr.heap.size := fun k hk => by obtain ⟨vs, ho, _⟩ := hB; exact own_lt ho hk
      have hbc := (HF.out wr hbox).2.2.2.2.2
      have HB := Lib.hid hB
      have HN := Lib.hid hnext
      have HRL := Lib.hid hRl
      have HOWN := Lib.hid hown
      have HBOX := Lib.hid hbox
      clear hB hca hcl hat hx hR hnext hRl hown hbox
      go_wp2_with (refine wpList_load_mid rfl 51 _ rfl b (off + k * 33) rfl c _ HCA.out Tryd.underlying51 rfl HI.out ?_)
      refine (rSig_any _ HREP.out HSM.out).mono ?_
      rintro e w1 ⟨v1, rfl, f1⟩
      have hb1 := hbl.trans (f1.2.mono hbl.size)
      obtain ⟨y, hy⟩ : ∃ y, y = (tSig).enc x := ⟨_, rfl⟩
      have f1 : Fresh wr w1 v1 y := hy ▸ f1
      rw [← hy] at HN
      obtain ⟨A1, c1, rfl⟩ := f1.1.form
      obtain ⟨vs, ho, hS, hr⟩ := HB.out.below f1.2
      have hsz1 := f1.2.size
      have hal : Below w1.heap.size w1 (w1.alloc (.cells #[.slice A1 y.length c1] 28)) := (Below.refl _ w1).alloc (Nat.le_refl _) _
      have HAL := Lib.hid hal
      have HO := Lib.hid (show Own (w1.alloc (.cells #[.slice A1 y.length c1] 28)) _ _ _ _ _ from own_keep ho fun k hk => hal.block k (own_lt ho hk))
      have HS := Lib.hid hS
      have HR := Lib.hid (fun i x u h1 h2 => (hr i x u h1 h2).below hal)
      have HU := Lib.hid ((f1.1.1.below hal).sub (T := fun b => (w.heap.size + 1) ≤ b ∧ (Value.slice Aa R.length ca).ownBlock ≠ some b) fun b hb _ => ⟨Nat.le_trans hMz hb.1, fun e => by have := HOWN.out b e; omega⟩)
      have HS2 := Lib.hid (Cs.of_new w1 28 (size := 1) 1 (cs := [.slice A1 y.length c1]) rfl (by simp only [maxLen]; decide))
      have H63 := Lib.hid (show R.length + 1 ≤ maxLen ∧ (R.length + 1) * 24 ≤ 140737488355328 from by have := HRL.out; refine ⟨by simp only [maxLen]; omega, by omega⟩)
      have HF2 := Lib.hid f1.2
      clear ho hS hr hal f1 hy
      go_wp2_with (at_builtin; refine wpList_app _ rfl _ _ _ rfl Tryd.underlying93 info_row rfl (by decide) HO.out rfl HS2.out rfl (by simp [Value.oneCell']) H63.out.1 H63.out.2 ?_; intro v3 w3 ho3 hg3 hnil3 hat3; clear hnil3; have HO3 := Lib.hid ho3; clear ho3; have HG3 := Lib.hid hg3; clear hg3; have HAT3 := Lib.hid hat3; clear hat3)
      have hzz := HAL.out.size
      have hz3 := HG3.out.size
      have hpush := Bss.push HO.out HS.out HR.out HU.out HO3.out HG3.out HAT3.out (by have := hb1.size; omega)
      rw [← HN.out] at hpush
      have hbA : Below w.heap.size w (w1.alloc (.cells #[.slice A1 y.length c1] 28)) := hb1.trans (HAL.out.mono hb1.size)
      have hbw3 := HF2.out.trans (HAL.out.mono hsz1)
      refine ⟨⟨k + 1, by omega, by push_cast; rfl, hpush, hbA.trans (HG3.out.below hbA.size fun b h => by have h1 := HS.out b h; have h2 := HBOX.out.lt; omega), by omega, (HBOX.out.below hbw3 HBOX.out.lt).chg HG3.out fun h => by have h1 := HS.out _ h; have h2 := hMb; omega⟩, ?_⟩
      simp only [intOf]
      omega
    · have hk' : k = (List.length (α := (tSig).El) x5) := by omega
      rw [hk', List.take_length] at hB
      have hsm : ∀ x ∈ List.map (tSig).enc x5, x.length ≤ 140737488355328 := fun x hx => by
        have h1 := joinP_mem hx
        have h2 := HE5.out
        have h3 : ((Sh.list tSig).enc x5).length = 8 + (joinP (List.map (tSig).enc x5)).length := joinB_length _
        omega
      have hEJ5 := HEJ5.out
      obtain ⟨R5m, hR5m⟩ : ∃ R, R = List.map (tSig).enc x5 := ⟨_, rfl⟩
      rw [← hR5m] at hB hsm hEJ5
      have HRm5 := Lib.hid hR5m
      have HEK5 := Lib.hid hEJ5
      clear hR5m hEJ5
      have V5 := Lib.hid (((hB.read hsm).lt_ (T := fun _ => True) fun _ _ => trivial).subs (T := fun b => b < wr.heap.size) fun b hb _ => hb.2)
      obtain ⟨Ao5, co5, rfl⟩ := hB.form
      have hbc5 := (HF.out wr hbox).2.2.2.2.2
      clear hB hsm
      obtain ⟨w_5, hw_5⟩ : ∃ w', w' = wr := ⟨_, rfl⟩
      subst hw_5
      have HBX5 := Lib.hid hbox; have hmb5 := hbox.lt; clear hbox
      go_wp2_with fail
      clear hlt hk hk'
      have hsz := HBX5.out.lt
      have hb0 : Blk w_5.drew w.heap.size 43 C.toArray := HBX5.out.drew
      have hbw : Below w.heap.size w w_5.drew := (hbl).drew
      have D3 := Lib.hid (Bs.of_range32 (S := fun b => b = w.heap.size) rfl hb0.lt ((HF.out _ hb0).2.2.2.1) L3.out)
      refine wp_region_hoist [0, 1, 2, 4, 5, 6, 8, 9, 10, 12, 13, 14, 15, 17] [3, 7, 11, 16, 18] [19, 20, 21] (fun w' => Blk w' w.heap.size 43 C.toArray)
        (by kernel_rfl) (by kernel_rfl) (by kernel_rfl) (by kernel_rfl) (by kernel_rfl) (by kernel_rfl) hb0 ?_
      (refine HoistK.yes (by rfl) (by kernel_rfl) ⟨?_, fun w' hSw => ?_, ?_⟩; rotate_left; (· go_simp; try with_reducible rfl); simp only [Act.put, List.setIfInBounds_toArray, List.getElem_toArray, List.getElem_cons_zero, List.set_cons_succ, List.set_cons_zero])
      (refine HoistK.yes (by rfl) (by kernel_rfl) ⟨?_, fun w' hSw => ?_, ?_⟩; rotate_left; (· obtain ⟨s0, s1, s2, s3, s4, s5⟩ := HF.out _ hSw; go_simp; try with_reducible rfl); simp only [Act.put, List.setIfInBounds_toArray, List.getElem_toArray, List.getElem_cons_succ, List.getElem_cons_zero, List.set_cons_succ, List.set_cons_zero])
      (refine HoistK.yes (by rfl) (by kernel_rfl) ⟨?_, fun w' hSw => ?_, ?_⟩; rotate_left; (· go_simp; try with_reducible rfl); simp only [Act.put, List.setIfInBounds_toArray, List.getElem_toArray, List.getElem_cons_succ, List.getElem_cons_zero, List.set_cons_succ, List.set_cons_zero])
      (refine HoistK.yes (by rfl) (by kernel_rfl) ⟨?_, fun w' hSw => ?_, ?_⟩; rotate_left; (· go_simp; try with_reducible rfl); simp only [Act.put, List.setIfInBounds_toArray, List.getElem_toArray, List.getElem_cons_succ, List.getElem_cons_zero, List.set_cons_succ, List.set_cons_zero])
      (refine HoistK.yes (by rfl) (by kernel_rfl) ⟨?_, fun w' hSw => ?_, ?_⟩; rotate_left; (· obtain ⟨s0, s1, s2, s3, s4, s5⟩ := HF.out _ hSw; go_simp; try with_reducible rfl); simp only [Act.put, List.setIfInBounds_toArray, List.getElem_toArray, List.getElem_cons_succ, List.getElem_cons_zero, List.set_cons_succ, List.set_cons_zero])
      (refine HoistK.yes (by rfl) (by kernel_rfl) ⟨?_, fun w' hSw => ?_, ?_⟩; rotate_left; (· go_simp; try with_reducible rfl); simp only [Act.put, List.setIfInBounds_toArray, List.getElem_toArray, List.getElem_cons_succ, List.getElem_cons_zero, List.set_cons_succ, List.set_cons_zero])
      (refine HoistK.yes (by rfl) (by kernel_rfl) ⟨?_, fun w' hSw => ?_, ?_⟩; rotate_left; (· go_simp; try with_reducible rfl); simp only [Act.put, List.setIfInBounds_toArray, List.getElem_toArray, List.getElem_cons_succ, List.getElem_cons_zero, List.set_cons_succ, List.set_cons_zero])
      (refine HoistK.yes (by rfl) (by kernel_rfl) ⟨?_, fun w' hSw => ?_, ?_⟩; rotate_left; (· obtain ⟨s0, s1, s2, s3, s4, s5⟩ := HF.out _ hSw; go_simp; try with_reducible rfl); simp only [Act.put, List.setIfInBounds_toArray, List.getElem_toArray, List.getElem_cons_succ, List.getElem_cons_zero, List.set_cons_succ, List.set_cons_zero])
      (refine HoistK.yes (by rfl) (by kernel_rfl) ⟨?_, fun w' hSw => ?_, ?_⟩; rotate_left; (· go_simp; try with_reducible rfl); simp only [Act.put, List.setIfInBounds_toArray, List.getElem_toArray, List.getElem_cons_succ, List.getElem_cons_zero, List.set_cons_succ, List.set_cons_zero])
      (refine HoistK.yes (by rfl) (by kernel_rfl) ⟨?_, fun w' hSw => ?_, ?_⟩; rotate_left; (· go_simp; try with_reducible rfl); simp only [Act.put, List.setIfInBounds_toArray, List.getElem_toArray, List.getElem_cons_succ, List.getElem_cons_zero, List.set_cons_succ, List.set_cons_zero])
      (refine HoistK.yes (by rfl) (by kernel_rfl) ⟨?_, fun w' hSw => ?_, ?_⟩; rotate_left; (· go_simp; try with_reducible rfl); simp only [Act.put, List.setIfInBounds_toArray, List.getElem_toArray, List.getElem_cons_succ, List.getElem_cons_zero, List.set_cons_succ, List.set_cons_zero])
      (refine HoistK.yes (by rfl) (by kernel_rfl) ⟨?_, fun w' hSw => ?_, ?_⟩; rotate_left; (· go_simp; try with_reducible rfl); simp only [Act.put, List.setIfInBounds_toArray, List.getElem_toArray, List.getElem_cons_succ, List.getElem_cons_zero, List.set_cons_succ, List.set_cons_zero])
      (refine HoistK.yes (by rfl) (by kernel_rfl) ⟨?_, fun w' hSw => ?_, ?_⟩; rotate_left; (· obtain ⟨s0, s1, s2, s3, s4, s5⟩ := HF.out _ hSw; go_simp; try with_reducible rfl); simp only [Act.put, List.setIfInBounds_toArray, List.getElem_toArray, List.getElem_cons_succ, List.getElem_cons_zero, List.set_cons_succ, List.set_cons_zero])
      (refine HoistK.yes (by rfl) (by kernel_rfl) ⟨?_, fun w' hSw => ?_, ?_⟩; rotate_left; (· go_simp; try with_reducible rfl); simp only [Act.put, List.setIfInBounds_toArray, List.getElem_toArray, List.getElem_cons_succ, List.getElem_cons_zero, List.set_cons_succ, List.set_cons_zero])
      refine HoistK.nil_ ?_
      simp only [opsAt, List.filterMap_cons, List.filterMap_nil, List.getElem?_toArray, List.getElem?_cons_succ, List.getElem?_cons_zero]
      have g0 : Got w_5.drew w_5.drew [] [] := Got.start (Below.refl _ _)
      refine Effects.cons_ fun _ hQ1 => ?_
      go_wp2_with fail
      refine (rNumI_any _ _).mono ?_
      rintro e u1 ⟨v1, rfl, f1⟩
      have g1 := g0.step f1
      have hb1 := hb0.below f1.2 hb0.lt
      clear f1
      go_wp2_with fail
      refine hQ1 _ _ hb1 (Effects.cons_ fun _ hQ2 => ?_)
      clear hQ1 hb0 g0
      go_wp2_with fail
      refine (rNumI_any _ _).mono ?_
      rintro e u2 ⟨v2, rfl, f2⟩
      have g2 := g1.step f2
      have hb2 := hb1.below f2.2 hb1.lt
      clear f2
      go_wp2_with fail
      refine hQ2 _ _ hb2 (Effects.cons_ fun _ hQ3 => ?_)
      clear hQ2 hb1 g1
      go_wp2_with fail
      refine (rNumI_any _ _).mono ?_
      rintro e u3 ⟨v3, rfl, f3⟩
      have g3 := g2.step f3
      have hb3 := hb2.below f3.2 hb2.lt
      clear f3
      go_wp2_with fail
      refine hQ3 _ _ hb3 (Effects.cons_ fun _ hQ4 => ?_)
      clear hQ3 hb2 g2
      have g4 := g3.old D3.out
      clear g3
      go_wp2_with fail
      refine (rNums_any _ (Sh.rep_below R4.out (hbw.trans (g4.1.mono hbw.size))) (by have h1 := HLL.out; rw [joinB_length] at h1; have h2 := joinP_mem (l := [numB x0, numB x1, numB x2, x3, (Sh.list i64).enc x4, (Sh.list tSig).enc x5]) (x := (Sh.list i64).enc x4) (by simp); omega)).mono ?_
      rintro e u4 ⟨v5, rfl, f4⟩
      have g5 := g4.step f4
      have hb4 := hb3.below f4.2 hb3.lt
      clear f4
      go_wp2_with fail
      refine hQ4 _ _ hb4 (Effects.cons_ fun _ hQ5 => ?_)
      clear hQ4 hb3 g4
      go_wp2_with fail
      refine (rJoin_any _ (V5.out.drew_.below g5.1) HEK5.out (fun b hb => Nat.lt_of_lt_of_le hb g5.1.size)).mono ?_
      rintro e u5 ⟨v6, rfl, f5⟩
      rw [HRm5.out] at f5
      have f5 : Fresh _ _ _ ((Sh.list tSig).enc x5) := f5
      have g6 := g5.step f5
      have hb5 := hb4.below f5.2 hb4.lt
      clear f5
      go_wp2_with fail
      refine hQ5 _ _ hb5 (Effects.nil_ fun _ hQ6 => ?_)
      clear hQ5 hb4 g5
      have hcs : ∀ v ∈ [v1, v2, v3, (.slice (some ⟨w.heap.size, 3, none⟩) 32 32), v5, v6], v.cells = #[v] := fun v hv => by
        obtain ⟨i, hi, rfl⟩ := List.getElem_of_mem hv
        obtain ⟨y, _, hr⟩ := g6.2.get i hi
        obtain ⟨A, c, e⟩ := hr.form
        have e' : [v1, v2, v3, (.slice (some ⟨w.heap.size, 3, none⟩) 32 32), v5, v6][i] = .slice A y.length c := e
        rw [e']; rfl
      refine wpList_rows rfl 6 _ rfl [v1, v2, v3, (.slice (some ⟨w.heap.size, 3, none⟩) 32 32), v5, v6] rfl (by decide) (by decide) hcs (by simp [Act.eval]) ?_
      have hr : Bsr (u5.alloc (.cells [v1, v2, v3, (.slice (some ⟨w.heap.size, 3, none⟩) 32 32), v5, v6].toArray 28)) (fun b => b < u5.heap.size + 1) (.slice (some ⟨u5.heap.size, 0, none⟩) 6 6) [numB x0, numB x1, numB x2, x3, (Sh.list i64).enc x4, (Sh.list tSig).enc x5] := g6.row (by simp [maxLen]) 28
      have hj := rJoin_any _ hr (by have := HLL.out; omega) (fun b hb => by simpa using hb)
      have hbb : Below w.heap.size w (u5.alloc (.cells [v1, v2, v3, (.slice (some ⟨w.heap.size, 3, none⟩) 32 32), v5, v6].toArray 28)) := (hbw.trans (g6.1.mono hbw.size)).alloc (hbw.trans (g6.1.mono hbw.size)).size _
      have HJ := Lib.hid hj
      have HBB := Lib.hid hbb
      clear hj hbb hr g6 hcs
      go_wp2_with fail
      refine HJ.out.mono ?_
      rintro e uz ⟨vz, rfl, fz⟩
      go_wp2_with fail
      go_ret
      exact ⟨vz, rfl, fz.1.sub fun b hb _ => ⟨Nat.le_trans HBB.out.size hb.1, hb.2⟩, HBB.out.trans (fz.2.mono HBB.out.size)⟩

end Go.Proofs.YtjjgmkfkmckkoaaDoor

/- A region that draws its order, in three parts: H is taken first (its values hang on S), then E one behind the other, then H2, whose values hang on no world: a call between what it is handed and the shares of its answer. -/
namespace Go.Proofs.YtjjgmkfkmckkoaaDoor
open Go.RowKit

section
variable {P : Program} {ops : Array Oper} {Q : Exit → Act → World → Prop} {S S' : World → Prop} {late late' : List Nat}

theorem AnyS.weaken : ∀ (n : Nat) (listed : Array Bool) (a : Act) (w : World), (∀ i, listed.getD i true = false → late.contains i = true) → AnyS P ops Q S' late' n listed a w → AnyS P ops Q S late n listed a w
  | 0, _, _, _, _, h => h
  | n + 1, listed, a, w, hl, h => ⟨h.1, fun i hi => wpOp_mono (fun a' w' h' => ⟨fun hn => (by rw [hl i (mem_ready.1 hi).1] at hn; cases hn), AnyS.weaken n _ a' w' (fun k hk => by
      by_cases e : i = k
      · subst e
        exact hl i (mem_ready.1 hi).1
      · rw [getD_set_ne true e] at hk
        exact hl k hk) h'.2⟩) (h.2 i hi)⟩

/-- One behind the other, and behind them K. -/
def EffK (P : Program) (ops : Array Oper) (Q : Exit → Act → World → Prop) : List Oper → Act → World → (Act → World → Prop) → Prop
  | [], a, w, K => K a w
  | o :: r, a, w, K => wpList P ops (Exit.then (fun a' w' => EffK P ops Q r a' w' K) Q) [o] a w
theorem EffK.nil_ {a : Act} {w : World} {K : Act → World → Prop} (h : K a w) : EffK P ops Q [] a w K := h
theorem EffK.cons_ {o : Oper} {r : List Oper} {a : Act} {w : World} {K : Act → World → Prop} (h : ∀ Q' : Exit → Act → World → Prop, (∀ a w, EffK P ops Q r a w K → Q' .normal a w) → wpList P ops Q' [o] a w) : EffK P ops Q (o :: r) a w K :=
  h _ fun _ _ he => he

/-- Is each of them the only one that may come up in its turn? -/
def chainPre (ops : Array Oper) : List Nat → Array Bool → Bool
  | [], _ => true
  | i :: r, listed => (Region.ready .any ops listed == [i]) && chainPre ops r (listed.setIfInBounds i true)

theorem Closed.chain : ∀ (E : List Nat) (listed : Array Bool), Closed ops listed → chainPre ops E listed = true → Closed ops (listedBy E listed)
  | [], _, h, _ => h
  | i :: r, listed, h, hc => by
    simp only [chainPre, Bool.and_eq_true, beq_iff_eq] at hc
    exact Closed.chain r _ (h.more (by rw [hc.1]; simp)) hc.2
theorem Closed.hoist {late : List Nat} : ∀ (H : List Nat) (listed : Array Bool), Closed ops listed → hoistOk ops late H listed = true → Closed ops (listedBy H listed)
  | [], _, h, _ => h
  | i :: r, listed, h, hc => by
    simp only [hoistOk, Bool.and_eq_true] at hc
    exact Closed.hoist r _ (h.more (by simpa using hc.1.1.2)) hc.2

theorem AnyS.chainK {n : Nat} {K : Act → World → Prop} : ∀ (E : List Nat) (listed : Array Bool) (a : Act) (w : World), E.all (fun i => late.contains i) = true → chainPre ops E listed = true → E.all (fun i => (ops[i]?).isSome) = true →
    (∀ a' w', K a' w' → AnyS P ops (NoPanic Q) S late n (listedBy E listed) a' w') → EffK P ops (NoPanic Q) (opsAt ops E) a w K → AnyS P ops (NoPanic Q) S late (E.length + n) listed a w
  | [], listed, a, w, _, _, _, hK, h => by simpa [opsAt, EffK, listedBy] using hK a w h
  | i :: r, listed, a, w, hl, hc, hs, hK, h => by
    simp only [List.all_cons, Bool.and_eq_true] at hl hs
    simp only [chainPre, Bool.and_eq_true, beq_iff_eq] at hc
    obtain ⟨o, ho⟩ := Option.isSome_iff_exists.1 hs.1
    rw [show (i :: r).length + n = r.length + n + 1 from by simp; omega]
    refine ⟨fun h0 => (by rw [hc.1] at h0; cases h0), fun j hj => ?_⟩
    rw [hc.1] at hj
    obtain rfl : j = i := by simpa using hj
    have hops : opsAt ops (j :: r) = o :: opsAt ops r := by simp [opsAt, ho]
    rw [hops] at h
    exact wpOp_mono (fun a' w' h' => ⟨fun hn => (by rw [hl.1] at hn; cases hn), AnyS.chainK r _ _ _ hl.2 hc.2 hs.2 hK h'⟩) (wpList_one ho h (fun h => h) (fun _ _ _ h => h))

theorem listedBy_less : ∀ (E : List Nat) (listed : Array Bool) (i : Nat), (listedBy E listed).getD i true = false → listed.getD i true = false
  | [], _, _, h => h
  | k :: r, listed, i, h => by
    have := listedBy_less r (listed.setIfInBounds k true) i h
    by_cases e : k = i
    · subst e
      simp only [Array.getD_eq_getD_getElem?, Array.getElem?_setIfInBounds] at this
      split at this
      · split at this <;> simp at this
      · rename_i hne; exact absurd trivial hne
    · rwa [getD_set_ne true e] at this
theorem listedBy_size : ∀ (E : List Nat) (listed : Array Bool), (listedBy E listed).size = listed.size
  | [], _ => rfl
  | k :: r, listed => by have := listedBy_size r (listed.setIfInBounds k true); simpa [listedBy] using this

/-- A region that draws its order: H first, then E, then H2. -/
theorem wp_region_two {id : Nat} {a : Act} {w : World} (H E H2 : List Nat) (S : World → Prop) (hm : P.follows .mixedOrders = true)
    (hsel : Region.noSelect ops = true) (hall : H.length + (E.length + (H2.length + 0)) = ops.size) (hok : hoistOk ops (E ++ H2) H (Array.replicate ops.size false) = true)
    (hch : chainPre ops E (listedBy H (Array.replicate ops.size false)) = true) (hsome : E.all (fun i => (ops[i]?).isSome) = true)
    (hok2 : hoistOk ops [] H2 (listedBy E (listedBy H (Array.replicate ops.size false))) = true)
    (hrest : (List.range ops.size).all (fun i => (listedBy H (Array.replicate ops.size false)).getD i true || (E ++ H2).contains i) = true)
    (hend : (Region.ready .any ops (listedBy H2 (listedBy E (listedBy H (Array.replicate ops.size false))))).isEmpty = true)
    (hS : S w.drew) (hH : HoistK P ops S H a fun a' => EffK P ops (NoPanic Q) (opsAt ops E) a' w.drew fun a2 w2 => HoistK P ops (fun _ => True) H2 a2 fun a3 =>
      ∀ Q' : Exit → Act → World → Prop, (∀ a w, Q .normal a w → Q' .normal a w) → wpList P ops Q' [] a3 w2) : (Code.region id ops true).wp P Q a w := by
  obtain ⟨a', hH, h⟩ := HoistK.out _ _ _ hH
  have hcl1 := Closed.hoist (late := E ++ H2) H _ (Closed.start ops.size) hok
  have hcl2 := Closed.chain E _ hcl1 hch
  have hrest' : ∀ i, (listedBy H (Array.replicate ops.size false)).getD i true = false → (E ++ H2).contains i = true := fun i hi => by
    have hlt : i < ops.size := by
      rcases Nat.lt_or_ge i ops.size with h | h
      · exact h
      · have := listedBy_size H (Array.replicate ops.size false)
        rw [Array.getD_eq_getD_getElem?, Array.getElem?_eq_none (by rw [this]; simpa using h)] at hi
        cases hi
    have := List.all_eq_true.1 hrest i (List.mem_range.2 hlt)
    rw [hi] at this
    simpa using this
  have hmid : AnyS P ops (NoPanic Q) S (E ++ H2) (E.length + (H2.length + 0)) (listedBy H (Array.replicate ops.size false)) a' w.drew := by
    refine AnyS.chainK E _ _ _ (List.all_eq_true.2 fun i hi => by simp [hi]) hch hsome (fun a2 w2 h2 => ?_) h
    obtain ⟨a3, hH2, h3⟩ := HoistK.out _ _ _ h2
    have hq : NoPanic Q .normal a3 w2 := h3 (NoPanic Q) (fun _ _ h => h)
    have := AnyS.hoist (Q := Q) (late := []) hsel (S := fun _ => True) trivial H2 0 _ a2 hcl2 hok2 hH2 ⟨by simpa using hend, hq⟩
    exact AnyS.weaken _ _ _ _ (fun i hi => hrest' i (listedBy_less E _ i hi)) this
  have hfin := AnyS.hoist (Q := Q) (late := E ++ H2) hsel hS H _ _ a (Closed.start _) hok hH hmid
  rw [hall] at hfin
  exact wp_region_noPanic (wp_region_any hm (AnyS.any (S := S) (late := E ++ H2) _ _ _ _ hfin))
end

end Go.Proofs.YtjjgmkfkmckkoaaDoor

/- A region that draws its order and only reads or makes memory: segments, in each operations that are taken first (their values hang on S), then effects, one behind the other, that leave S. -/
namespace Go.Proofs.YtjjgmkfkmckkoaaDoor
open Go.RowKit

section
variable {P : Program} {ops : Array Oper} {Q : Exit → Act → World → Prop} {S : World → Prop}

/-- One behind the other, S behind each, and behind them K. -/
def EffS (P : Program) (ops : Array Oper) (Q : Exit → Act → World → Prop) (S : World → Prop) : List Oper → Act → World → (Act → World → Prop) → Prop
  | [], a, w, K => K a w
  | o :: r, a, w, K => wpList P ops (Exit.then (fun a' w' => S w' ∧ EffS P ops Q S r a' w' K) Q) [o] a w
theorem EffS.nil_ {a : Act} {w : World} {K : Act → World → Prop} (h : K a w) : EffS P ops Q S [] a w K := h
theorem EffS.cons_ {o : Oper} {r : List Oper} {a : Act} {w : World} {K : Act → World → Prop} (h : ∀ Q' : Exit → Act → World → Prop, (∀ a w, S w → EffS P ops Q S r a w K → Q' .normal a w) → wpList P ops Q' [o] a w) : EffS P ops Q S (o :: r) a w K :=
  h _ fun _ _ hs he => ⟨hs, he⟩

theorem AnyS.chainS {n : Nat} {K : Act → World → Prop} : ∀ (E : List Nat) (listed : Array Bool) (a : Act) (w : World), chainPre ops E listed = true → E.all (fun i => (ops[i]?).isSome) = true → S w →
    (∀ a' w', S w' → K a' w' → AnyS P ops (NoPanic Q) S [] n (listedBy E listed) a' w') → EffS P ops (NoPanic Q) S (opsAt ops E) a w K → AnyS P ops (NoPanic Q) S [] (E.length + n) listed a w
  | [], listed, a, w, _, _, hS, hK, h => by simpa [opsAt, EffS, listedBy] using hK a w hS h
  | i :: r, listed, a, w, hc, hs, hS, hK, h => by
    simp only [List.all_cons, Bool.and_eq_true] at hs
    simp only [chainPre, Bool.and_eq_true, beq_iff_eq] at hc
    obtain ⟨o, ho⟩ := Option.isSome_iff_exists.1 hs.1
    rw [show (i :: r).length + n = r.length + n + 1 from by simp; omega]
    refine ⟨fun h0 => (by rw [hc.1] at h0; cases h0), fun j hj => ?_⟩
    rw [hc.1] at hj
    obtain rfl : j = i := by simpa using hj
    have hops : opsAt ops (j :: r) = o :: opsAt ops r := by simp [opsAt, ho]
    rw [hops] at h
    exact wpOp_mono (fun a' w' h' => ⟨fun _ => h'.1, AnyS.chainS r _ _ _ hc.2 hs.2 h'.1 hK h'.2⟩) (wpList_one ho h (fun h => h) (fun _ _ _ h => h))

/-- Segment for segment. -/
def SegK (P : Program) (ops : Array Oper) (Q : Exit → Act → World → Prop) (S : World → Prop) : List (List Nat × List Nat) → Act → World → Prop
  | [], a, w => ∀ Q' : Exit → Act → World → Prop, (∀ a w, Q .normal a w → Q' .normal a w) → wpList P ops Q' [] a w
  | (H, E) :: r, a, w => HoistK P ops S H a fun a' => EffS P ops (NoPanic Q) S (opsAt ops E) a' w (SegK P ops Q S r)
def segsOk (ops : Array Oper) : List (List Nat × List Nat) → Array Bool → Bool
  | [], listed => (Region.ready .any ops listed).isEmpty
  | (H, E) :: r, listed => hoistOk ops [] H listed && chainPre ops E (listedBy H listed) && E.all (fun i => (ops[i]?).isSome) && segsOk ops r (listedBy E (listedBy H listed))
def segsLen : List (List Nat × List Nat) → Nat
  | [] => 0
  | (H, E) :: r => H.length + (E.length + segsLen r)

theorem AnyS.segs (hsel : Region.noSelect ops = true) : ∀ (segs : List (List Nat × List Nat)) (listed : Array Bool) (a : Act) (w : World), Closed ops listed → segsOk ops segs listed = true → S w → SegK P ops Q S segs a w → AnyS P ops (NoPanic Q) S [] (segsLen segs) listed a w
  | [], listed, a, w, _, hok, _, h => ⟨by simpa [segsOk] using hok, (h (NoPanic Q) (fun _ _ h => h) : NoPanic Q .normal a w)⟩
  | (H, E) :: r, listed, a, w, hcl, hok, hS, h => by
    simp only [segsOk, Bool.and_eq_true] at hok
    obtain ⟨⟨⟨h1, h2⟩, h3⟩, h4⟩ := hok
    obtain ⟨a', hH, h⟩ := HoistK.out _ _ _ h
    have hcl1 := Closed.hoist (late := []) H _ hcl h1
    have hcl2 := Closed.chain E _ hcl1 h2
    exact AnyS.hoist hsel hS H _ _ a hcl h1 hH (AnyS.chainS E _ _ _ h2 h3 hS (fun a2 w2 hs2 hk => AnyS.segs hsel r _ a2 w2 hcl2 h4 hs2 hk) h)

/-- The region. -/
theorem wp_region_segs {id : Nat} {a : Act} {w : World} (segs : List (List Nat × List Nat)) (S : World → Prop) (hm : P.follows .mixedOrders = true) (hsel : Region.noSelect ops = true)
    (hall : segsLen segs = ops.size) (hok : segsOk ops segs (Array.replicate ops.size false) = true) (hS : S w.drew) (h : SegK P ops Q S segs a w.drew) : (Code.region id ops true).wp P Q a w := by
  have hfin := AnyS.segs (Q := Q) hsel segs _ a _ (Closed.start ops.size) hok hS h
  rw [hall] at hfin
  exact wp_region_noPanic (wp_region_any hm (AnyS.any (S := S) (late := []) _ _ _ _ hfin))
end

end Go.Proofs.YtjjgmkfkmckkoaaDoor

/- A region that draws its order: segments, as Hoist3's, but what holds may grow from segment to segment. -/
namespace Go.Proofs.YtjjgmkfkmckkoaaDoor
open Go.RowKit

section
variable {P : Program} {ops : Array Oper} {Q : Exit → Act → World → Prop}

theorem AnyS.weak {S S' : World → Prop} {late : List Nat} (h : ∀ w, S' w → S w) : ∀ (n : Nat) (listed : Array Bool) (a : Act) (w : World), AnyS P ops Q S' late n listed a w → AnyS P ops Q S late n listed a w
  | 0, _, _, _, k => k
  | n + 1, _, _, _, k => ⟨k.1, fun i hi => wpOp_mono (fun _ _ k' => ⟨fun hl => h _ (k'.1 hl), AnyS.weak h n _ _ _ k'.2⟩) (k.2 i hi)⟩
/-- Segment for segment; in each, what holds from there on. -/
def SegV (P : Program) (ops : Array Oper) (Q : Exit → Act → World → Prop) : (World → Prop) → List (List Nat × List Nat) → Act → World → Prop
  | _, [], a, w => ∀ Q' : Exit → Act → World → Prop, (∀ a w, Q .normal a w → Q' .normal a w) → wpList P ops Q' [] a w
  | S, (H, E) :: r, a, w => ∃ S' : World → Prop, (∀ w, S' w → S w) ∧ S' w ∧ HoistK P ops S' H a fun a' => EffS P ops (NoPanic Q) S' (opsAt ops E) a' w (SegV P ops Q S' r)
theorem SegV.mk {S : World → Prop} (S' : World → Prop) {H E : List Nat} {r : List (List Nat × List Nat)} {a : Act} {w : World} (h : ∀ w, S' w → S w) (hS : S' w) (k : HoistK P ops S' H a fun a' => EffS P ops (NoPanic Q) S' (opsAt ops E) a' w (SegV P ops Q S' r)) : SegV P ops Q S ((H, E) :: r) a w := ⟨S', h, hS, k⟩
theorem AnyS.segsV (hsel : Region.noSelect ops = true) : ∀ (segs : List (List Nat × List Nat)) (S : World → Prop) (listed : Array Bool) (a : Act) (w : World), Closed ops listed → segsOk ops segs listed = true → SegV P ops Q S segs a w → AnyS P ops (NoPanic Q) S [] (segsLen segs) listed a w
  | [], _, listed, a, w, _, hok, h => ⟨by simpa [segsOk] using hok, (h (NoPanic Q) (fun _ _ h => h) : NoPanic Q .normal a w)⟩
  | (H, E) :: r, S, listed, a, w, hcl, hok, ⟨S', hSS, hS, h⟩ => by
    simp only [segsOk, Bool.and_eq_true] at hok
    obtain ⟨⟨⟨h1, h2⟩, h3⟩, h4⟩ := hok
    obtain ⟨a', hH, h⟩ := HoistK.out _ _ _ h
    have hcl1 := Closed.hoist (late := []) H _ hcl h1
    have hcl2 := Closed.chain E _ hcl1 h2
    exact AnyS.weak hSS _ _ _ _ (AnyS.hoist hsel hS H _ _ a hcl h1 hH (AnyS.chainS E _ _ _ h2 h3 hS (fun a2 w2 _ hk => AnyS.segsV hsel r S' _ a2 w2 hcl2 h4 hk) h))

/-- The region. -/
theorem wp_region_segsV {id : Nat} {a : Act} {w : World} (segs : List (List Nat × List Nat)) (hm : P.follows .mixedOrders = true) (hsel : Region.noSelect ops = true)
    (hall : segsLen segs = ops.size) (hok : segsOk ops segs (Array.replicate ops.size false) = true) (h : SegV P ops Q (fun _ => True) segs a w.drew) : (Code.region id ops true).wp P Q a w := by
  have hfin := AnyS.segsV (Q := Q) hsel segs (fun _ => True) _ a _ (Closed.start ops.size) hok h
  rw [hall] at hfin
  exact wp_region_noPanic (wp_region_any hm (AnyS.any (S := fun _ => True) (late := []) _ _ _ _ hfin))
end

end Go.Proofs.YtjjgmkfkmckkoaaDoor
