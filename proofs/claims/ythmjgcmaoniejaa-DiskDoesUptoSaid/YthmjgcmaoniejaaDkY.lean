/- The document's disk: Up. -/
import Derived.Test.YthmjgcmaoniejaaDkX
import Derived.Deep.CutBlock
namespace Go.Proofs.Ythmjgcmaoniejaa
open Go.RowKit Go.Maps

attribute [-simp] Try.isAgg35 Try.sizeOf35 Try.typeInfo35 Try.isAgg61 Try.sizeOf61 Try.typeInfo61

/-- The last that is kept of the first k. -/
def lastTo (keep : List Bool) : Nat → Int
  | 0 => -1
  | k + 1 => if keep[k]? = some true then (k : Int) else lastTo keep k
/-- What a block is behind its coming up. -/
def mixB (whole : Bool) (torn : Int) (l old : List Int) : List Int := if whole then l else l.take torn.toNat ++ old.drop torn.toNat
def rstep (loose : List (Int × List Int)) (keep : List Bool) (torn last : Int) (f : List (List Int)) (i : Nat) : List (List Int) :=
  if keep[i]? = some true then f.set (loose.getD i (0, [])).1.toNat (mixB (decide ((i : Int) ≠ last ∨ torn < 0)) torn (loose.getD i (0, [])).2 (f.getD (loose.getD i (0, [])).1.toNat [])) else f
def RS.up (R : RS) (keep : List Bool) (torn : Int) : RS :=
  { R with firm := (List.range (min R.loose.length keep.length)).foldl (rstep R.loose keep torn (lastTo keep (min R.loose.length keep.length))) R.firm, loose := [], off := false, fuse := -1 }

theorem flatB_byte (f : List (List Int)) (h : ∀ x ∈ f, x.length = 256) : ∀ (n k : Nat) (b : Int), n < f.length → k < 256 → (flatB f).set (n * 256 + k) (.int .u8 b) = flatB (f.set n ((f.getD n []).set k b)) := by
  induction f with
  | nil => intro n k b hn; simp at hn
  | cons y r ih =>
    intro n k b hn hk
    have hy := h y (List.mem_cons_self ..)
    have hyl : (cu8 y).length = 256 := by rw [cu8_length, hy]
    rw [show flatB (y :: r) = cu8 y ++ flatB r by simp [flatB]]
    rcases n with _ | n
    · rw [Nat.zero_mul, Nat.zero_add, List.set_append_left _ _ (by omega), List.set_cons_zero]
      simp only [flatB, List.flatMap_cons, List.getD_cons_zero]
      congr 1
      simp [cu8, List.map_set]
    · have := ih (fun z hz => h z (List.mem_cons_of_mem _ hz)) n k b (by simpa using hn) hk
      rw [List.set_append_right _ _ (by omega), show (n + 1) * 256 + k - (cu8 y).length = n * 256 + k by omega, this, List.set_cons_succ]
      simp [flatB]
theorem set_seg (xs : List Value) (o : Nat) (v : Value) (h : o < xs.length) : xs.take o ++ [v] ++ xs.drop (o + [v].length) = xs.set o v := by
  rw [List.set_eq_take_append_cons_drop, if_pos h]; simp

theorem mix_step (t old : List Int) (k : Nat) (hk : k < 256) (ht : t.length = 256) (ho : old.length = 256) : (t.take k ++ old.drop k).set k (t.getD k 0) = t.take (k + 1) ++ old.drop (k + 1) := by
  rw [List.set_append_right _ _ (by simp only [List.length_take]; omega)]
  have e : k - (t.take k).length = 0 := by simp only [List.length_take]; omega
  rw [e, List.drop_eq_getElem_cons (by omega), List.set_cons_zero, List.take_succ_eq_append_getElem (by omega), List.append_assoc]
  simp [show k < t.length by omega]
theorem mix_same (t old : List Int) (k : Nat) (hk : k < 256) (ht : t.length = 256) (ho : old.length = 256) (h : t.getD k 0 = old.getD k 0) : t.take k ++ old.drop k = t.take (k + 1) ++ old.drop (k + 1) := by
  rw [← mix_step t old k hk ht ho, h]
  rw [List.set_append_right _ _ (by simp only [List.length_take]; omega)]
  have e : k - (t.take k).length = 0 := by simp only [List.length_take]; omega
  rw [e]
  congr 1
  rw [List.drop_eq_getElem_cons (by omega), List.set_cons_zero]
  simp [show k < old.length by omega]

theorem mixB_getD (k : Nat) (last torn : Int) (l old : List Int) (q : Nat) (hl : l.length = 256) (hq : q < 256) :
    (mixB (decide ((k : Int) ≠ last ∨ torn < 0)) torn l old).getD q 0 = if (k : Int) ≠ last ∨ torn < 0 ∨ (q : Int) < torn then l.getD q 0 else old.getD q 0 := by
  unfold mixB
  by_cases hw : (k : Int) ≠ last ∨ torn < 0
  · rw [if_pos (by simpa using hw), if_pos (hw.elim .inl (fun h => .inr (.inl h)))]
  · rw [if_neg (by simpa using hw)]
    rw [List.getD_eq_getElem?_getD, List.getD_eq_getElem?_getD, List.getD_eq_getElem?_getD]
    by_cases hqt : (q : Int) < torn
    · rw [if_pos (.inr (.inr hqt)), List.getElem?_append_left (by simp only [List.length_take]; omega), List.getElem?_take_of_lt (by omega)]
    · rw [if_neg (by omega), List.getElem?_append_right (by simp only [List.length_take]; omega), List.getElem?_drop]
      congr 2
      simp only [List.length_take]; omega
theorem rstep_ok {loose : List (Int × List Int)} {keep : List Bool} {torn last : Int} {f : List (List Int)} (hf : ∀ x ∈ f, x.length = 256) (hl : ∀ x ∈ loose, x.2.length = 256) (hn : ∀ x ∈ loose, 0 ≤ x.1 ∧ x.1 < f.length) {i : Nat} (hi : i < loose.length) :
    (rstep loose keep torn last f i).length = f.length ∧ ∀ x ∈ rstep loose keep torn last f i, x.length = 256 := by
  unfold rstep
  split
  · refine ⟨List.length_set, fun x hx => ?_⟩
    have hm := List.getElem_mem hi
    rw [show loose.getD i (0, []) = loose[i] by simp [hi]] at hx
    rcases List.mem_or_eq_of_mem_set hx with h | h
    · exact hf x h
    · rw [h]
      have h1 := hl _ hm
      have h2 := hn _ hm
      have h3 : (f.getD loose[i].1.toNat []).length = 256 := by
        rw [List.getD_eq_getElem?_getD, List.getElem?_eq_getElem (by omega), Option.getD_some]
        exact hf _ (List.getElem_mem _)
      unfold mixB
      split
      · exact h1
      · simp only [List.length_append, List.length_take, List.length_drop, h1, h3]; omega
  · exact ⟨rfl, hf⟩

set_option maxHeartbeats 4000000 in
set_option maxRecDepth 100000 in
theorem rup_any (p : Nat) (S T : Nat → Prop) (R : RS) (keep : List Bool) (torn : Int) (v : Value) (w : World) (h : RefI w p S R) (hok : R.Ok) (hkeep : Cs w T 1 v keep.length (bools keep)) (hT : ∀ b, T b → ¬ S b)
    (hn : ∀ x ∈ R.loose, 0 ≤ x.1 ∧ x.1 < R.firm.length) (hlen : R.loose.length ≤ 140737488355328) :
    Calls Try.prog 17 #[.pointer (some ⟨p, 0, none⟩), v, .int .i64 torn] w fun e w' => e = .returned (.tuple #[]) ∧ RefI w' p S (R.up keep torn) ∧ Chg S w w' := by
  obtain ⟨hSp, hS, vf, vl, hb0, ho0, hvf, hl0, hvl⟩ := h
  obtain ⟨A, cap, rfl⟩ := hl0.form
  obtain ⟨Af, capf, rfl⟩ := ho0.form
  obtain ⟨Ak, capk, rfl⟩ := hkeep.form
  have hc := hb0.cell
  go_enter Try.func17, Try.ntmps17
  go_upto_block 0 with fail
  go_cut [6, 7] (fun l i wx => wx = w ∧ l = .int .i64 (lastTo keep (min R.loose.length keep.length)))
  case first =>
    go_wp2_with fail
    go_loopw [6, 7] (fun l i wr => wr = w ∧ ∃ k : Nat, k ≤ R.loose.length ∧ k ≤ keep.length ∧ i = .int .i64 k ∧ l = .int .i64 (lastTo keep k)) (fun _ i _ => keep.length - (intOf i).toNat)
    case atStart => exact ⟨rfl, 0, Nat.zero_le _, Nat.zero_le _, rfl, rfl⟩
    case round =>
      obtain ⟨rfl, k, hk1, hk2, rfl, rfl⟩ := hrel
      by_cases hlt2 : k < keep.length ∧ k < R.loose.length
      · obtain ⟨hl1, hl2⟩ := hlt2
        obtain ⟨_, _, _, hke, _, _, hkp⟩ := hkeep
        obtain ⟨bk, offk, hAk, _, _, hkc⟩ := hkp (by omega)
        injection hke with hke _ _
        rw [hAk] at hke
        have hcell := hkc k _ (by rw [bools, List.getElem?_map, List.getElem?_eq_getElem hl1]; rfl)
        clear hkc hkp
        subst hke
        have hlast : lastTo keep (k + 1) = if keep[k]? = some true then (k : Int) else lastTo keep k := rfl
        rw [List.getElem?_eq_getElem hl1] at hlast
        have hlast := Lib.hid hlast
        generalize keep[k] = kb at *
        cases kb
        · go_wp2_with fail
          exact ⟨⟨trivial, k + 1, by omega, by omega, by go_num, by rw [hlast.out]; rfl⟩, by simp [intOf]; omega⟩
        · go_wp2_with fail
          exact ⟨⟨trivial, k + 1, by omega, by omega, by go_num, by rw [hlast.out]; rfl⟩, by simp [intOf]; omega⟩
      · rcases (by omega : k = R.loose.length ∨ (k < R.loose.length ∧ k = keep.length)) with hx | ⟨hx, hx2⟩
        · have hxx : ¬ (k : Int) < (R.loose.length : Int) := by omega
          go_wp2_with fail
          go_meet
          exact ⟨rfl, by rw [Nat.min_eq_left (by omega)]⟩
        · have hxx : (k : Int) < (R.loose.length : Int) := by omega
          have hxx2 : ¬ (k : Int) < (keep.length : Int) := by omega
          go_wp2_with fail
          go_meet
          exact ⟨rfl, by rw [Nat.min_eq_right (by omega)]⟩
  case rest =>
    obtain ⟨rfl, rfl⟩ := hcut
    generalize hla : lastTo keep (min R.loose.length keep.length) = last at *
    go_wp2_with fail
    clear hc
    go_loopw [8] (fun i wr => ∃ (k : Nat) (f : List (List Int)), k ≤ R.loose.length ∧ k ≤ keep.length ∧ i = .int .i64 k ∧ f = (List.range k).foldl (rstep R.loose keep torn last) R.firm ∧ f.length = R.firm.length ∧ (∀ x ∈ f, x.length = 256) ∧
      Own wr 35 256 (.slice Af R.firm.length capf) R.firm.length (flatB f) ∧ Chg (fun b => (Value.slice Af R.firm.length capf).ownBlock = some b) wc wr) (fun i _ => keep.length - (intOf i).toNat)
    case atStart => exact ⟨0, R.firm, Nat.zero_le _, Nat.zero_le _, rfl, rfl, rfl, hok.1, ho0, Chg.refl _ _⟩
    case round =>
      obtain ⟨k, f, hk1, hk2, rfl, hf, hfn, hf2, hor, hch⟩ := hrel
      have hbr := hb0.chg hch (fun e => own_blk_ne ho0 hb0 (by decide) e)
      have hlr := own_keep hl0 (fun k hk => hch.block k (own_lt hl0 hk) (fun e => own_own_ne hl0 ho0 (by decide) hk e))
      have hkr := hkeep.chg hch (fun b hb e => hT b hb (hvf b e))
      have hc := hbr.cell
      by_cases hlt2 : k < keep.length ∧ k < R.loose.length
      · obtain ⟨hl1, hl2⟩ := hlt2
        have hnext : (List.range (k + 1)).foldl (rstep R.loose keep torn last) R.firm = rstep R.loose keep torn last f k := by
          rw [List.range_succ, List.foldl_append, ← hf]; rfl
        obtain ⟨hr1, hr2⟩ := rstep_ok (torn := torn) (last := last) (keep := keep) hf2 hok.2 (fun x hx => by rw [hfn]; exact hn x hx) hl2
        have hf := Lib.hid hf
        have hnext := Lib.hid hnext
        obtain ⟨_, _, _, hke, _, _, hkp⟩ := hkr
        obtain ⟨bk, offk, hAk, _, _, hkc⟩ := hkp (by omega)
        injection hke with hke _ hcapk
        subst hcapk
        rw [hAk] at hke
        have hcell := hkc k _ (by rw [bools, List.getElem?_map, List.getElem?_eq_getElem hl1]; rfl)
        clear hkc hkp
        subst hke
        have hk? := Lib.hid (List.getElem?_eq_getElem hl1)
        generalize hkk : keep[k] = kb at *
        clear hkk
        cases kb
        · have hsame : rstep R.loose keep torn last f k = f := by unfold rstep; rw [if_neg (by rw [hk?.out]; simp)]
          have hsame := Lib.hid hsame
          go_wp2_with fail
          exact ⟨⟨k + 1, f, by omega, by omega, by go_num, by rw [hnext.out, hsame.out], hfn, hf2, hor, hch⟩, by simp [intOf]; omega⟩
        · obtain ⟨b, off, rfl, _, hbl, hrng⟩ := writes_at (Cs.of_own hlr (S := S) hvl) hok.2 hl2
          have hxl := hok.2 _ (List.getElem_mem hl2)
          have hxn := hn _ (List.getElem_mem hl2)
          have hD : R.loose.getD k (0, []) = R.loose[k] := by simp [hl2]
          obtain ⟨n, l, hxe⟩ : ∃ x l, R.loose[k] = (x, l) := ⟨_, _, rfl⟩
          simp only [hxe] at hxl hrng hxn hD
          obtain ⟨hn0, hn1⟩ := hxn
          have hol : (f.getD n.toNat []).length = 256 := by
            rw [List.getD_eq_getElem?_getD, List.getElem?_eq_getElem (by omega), Option.getD_some]
            exact hf2 _ (List.getElem_mem _)
          obtain ⟨old, hold⟩ : ∃ old, old = f.getD n.toNat [] := ⟨_, rfl⟩
          obtain ⟨t, ht⟩ : ∃ t, t = mixB (decide ((k : Int) ≠ last ∨ torn < 0)) torn l old := ⟨_, rfl⟩
          have htl : t.length = 256 := by
            rw [ht]; unfold mixB
            split
            · exact hxl
            · simp only [List.length_append, List.length_take, List.length_drop, hxl, hold, hol]; omega
          have hstep : rstep R.loose keep torn last f k = f.set n.toNat t := by
            unfold rstep
            rw [if_pos (by rw [hk?.out]), hD, ht, hold]
          rw [← hold] at hol
          have hstep := Lib.hid hstep
          have hget : ∀ q : Nat, q < 256 → t.getD q 0 = if (k : Int) ≠ last ∨ torn < 0 ∨ (q : Int) < torn then l.getD q 0 else old.getD q 0 := by
            intro q hq
            rw [ht]
            exact mixB_getD k last torn l old q hxl hq
          have hold := Lib.hid hold
          have ht := Lib.hid ht
          have hcn : wr.cell? ⟨b, off + k * 257, none⟩ = some (.int .i64 n) := hrng 0 _ rfl
          go_wp2_with fail
          simp only [Try.sizeOf61, Result.andThen]
          rw [Oper.upon_value]
          go_wp2_with fail
          go_loopw [10] (fun u wq => ∃ q : Nat, q ≤ 256 ∧ u = .int .i64 q ∧ Own wq 35 256 (.slice Af R.firm.length capf) R.firm.length (flatB (f.set n.toNat (t.take q ++ old.drop q))) ∧ Chg (fun b => (Value.slice Af R.firm.length capf).ownBlock = some b) wc wq) (fun u _ => 256 - (intOf u).toNat)
          case atStart =>
            refine ⟨0, by omega, rfl, ?_, hch⟩
            rw [List.take_zero, List.nil_append, List.drop_zero, hold.out]
            have e : f.set n.toNat (f.getD n.toNat []) = f := by
              rw [List.getD_eq_getElem?_getD, List.getElem?_eq_getElem (by omega), Option.getD_some]
              exact List.set_getElem_self _
            rw [e]
            exact hor
          case round =>
            obtain ⟨q, hq, rfl, hor2, hch2⟩ := hrel
            have hbr2 := hb0.chg hch2 (fun e => own_blk_ne ho0 hb0 (by decide) e)
            by_cases hq8 : q < 256
            · have hg := Lib.hid (hget q hq8)
              by_cases hcond : (k : Int) ≠ last ∨ torn < 0 ∨ (q : Int) < torn
              · have hms := mix_step t old q hq8 htl hol
                rw [hg.out, if_pos hcond] at hms
                obtain ⟨bf, offf, hAf, _, _, _⟩ := blocks_at (Cs.of_own ho0 (S := S) hvf) hok.1 (k := n.toNat) (by omega)
                subst hAf
                obtain rfl : offf = 0 := by
                  rcases ho0.2 with h0 | ⟨_, _, _, e, _⟩
                  · cases h0.1
                  · injection e with e _ _; injection e with e; injection e
                have hlr2 := own_keep hl0 (fun k hk => hch2.block k (own_lt hl0 hk) (fun e => own_own_ne hl0 ho0 (by decide) hk e))
                obtain ⟨b', off', hA', _, _, hrng2⟩ := writes_at (Cs.of_own hlr2 (S := S) hvl) hok.2 hl2
                injection hA' with hA'
                injection hA' with hA1 hA2 _
                subst hA1 hA2
                simp only [hxe] at hrng2
                have hlq : wr.cell? ⟨b, off + k * 257 + 1 + q, none⟩ = some (.int .u8 (l.getD q 0)) := by
                  have := hrng2 (1 + q) (.int .u8 (l.getD q 0)) (by simp [wcells, cu8, Nat.add_comm 1 q, show q < l.length by omega])
                  rwa [← Nat.add_assoc] at this
                have hgd : (f.set n.toNat (t.take q ++ old.drop q)).getD n.toNat [] = t.take q ++ old.drop q := by
                  rw [List.getD_eq_getElem?_getD, List.getElem?_set_self (by omega), Option.getD_some]
                have hset := flatB_byte (f.set n.toNat (t.take q ++ old.drop q)) (fun x hx => (List.mem_or_eq_of_mem_set hx).elim (hf2 x) (fun e => by rw [e]; simp only [List.length_append, List.length_take, List.length_drop]; omega)) n.toNat q (l.getD q 0) (by rw [List.length_set]; omega) hq8
                rw [hgd, hms, List.set_set] at hset
                have hfx : (flatB (f.set n.toNat (t.take q ++ old.drop q))).length = R.firm.length * 256 := by rw [flatB_length _ (fun x hx => (List.mem_or_eq_of_mem_set hx).elim (hf2 x) (fun e => by rw [e]; simp only [List.length_append, List.length_take, List.length_drop]; omega)), List.length_set, hfn]
                have hown := hor2.drew.setCells (n.toNat * 256 + q) [.int .u8 (l.getD q 0)] (by simp only [List.length_singleton]; omega)
                rw [set_seg _ _ _ (by rw [hfx]; omega), hset] at hown
                have hcc := hor2.drew.cells (n.toNat * 256 + q) (by omega)
                obtain ⟨u0, hu0⟩ := Option.isSome_iff_exists.1 hcc.1
                have hu1 := hcc.2
                have hch3 := hch2.drew.setOf (g := bf) rfl (n.toNat * 256 + q) (.int .u8 (l.getD q 0))
                generalize l.getD q 0 = lq at *
                have hcs : (((k : Int) != last) = true) ∨ (((k : Int) != last) = false ∧ torn < 0) ∨ (((k : Int) != last) = false ∧ ¬ torn < 0 ∧ (q : Int) < torn) := by
                  by_cases h1 : (k : Int) = last
                  · have h2 : ((k : Int) != last) = false := by simpa using h1
                    by_cases h3 : torn < 0
                    · exact .inr (.inl ⟨h2, h3⟩)
                    · exact .inr (.inr ⟨h2, h3, by omega⟩)
                  · exact .inl (by simpa using h1)
                clear hcond hms hset hcc hget hrng hrng2
                rcases hcs with c1 | ⟨c1, c2⟩ | ⟨c1, c2, c3⟩
                all_goals
                  go_upto_region 15 with fail
                  refine wp_region_hoist [0, 1, 2, 3, 4, 5, 6, 7, 8, 9, 10, 11, 12, 13, 14, 15, 16, 17] [] [18] (fun w' => w'.cell? ⟨p, 0, none⟩ = some (.slice (some ⟨bf, 0, none⟩) R.firm.length capf) ∧ w'.cell? ⟨p, 1, none⟩ = some (.slice (some ⟨b, off, none⟩) R.loose.length cap) ∧ w'.cell? ⟨b, off + k * 257 + 1 + q, none⟩ = some (.int .u8 lq))
                    (by kernel_rfl) (by kernel_rfl) (by kernel_rfl) (by kernel_rfl) (by kernel_rfl) (by kernel_rfl) ⟨hbr2.cell 0, hbr2.cell 1, hlq⟩ ?_
                  (refine HoistK.yes (by rfl) (by kernel_rfl) ⟨?_, fun w hSw => ?_, ?_⟩; rotate_left; (· go_simp; try with_reducible rfl); simp only [Act.put, List.setIfInBounds_toArray, List.getElem_toArray, List.getElem_cons_zero, List.set_cons_succ, List.set_cons_zero])
                  (refine HoistK.yes (by rfl) (by kernel_rfl) ⟨?_, fun w hSw => ?_, ?_⟩; rotate_left; (· go_simp; try with_reducible rfl); simp only [Act.put, List.setIfInBounds_toArray, List.getElem_toArray, List.getElem_cons_succ, List.getElem_cons_zero, List.set_cons_succ, List.set_cons_zero])
                  (refine HoistK.yes (by rfl) (by kernel_rfl) ⟨?_, fun w hSw => ?_, ?_⟩; rotate_left; (· go_simp; try with_reducible rfl); simp only [Act.put, List.setIfInBounds_toArray, List.getElem_toArray, List.getElem_cons_succ, List.getElem_cons_zero, List.set_cons_succ, List.set_cons_zero])
                  (refine HoistK.yes (by rfl) (by kernel_rfl) ⟨?_, fun w hSw => ?_, ?_⟩; rotate_left; (· go_simp; try with_reducible rfl); simp only [Act.put, List.setIfInBounds_toArray, List.getElem_toArray, List.getElem_cons_succ, List.getElem_cons_zero, List.set_cons_succ, List.set_cons_zero])
                  (refine HoistK.yes (by rfl) (by kernel_rfl) ⟨?_, fun w hSw => ?_, ?_⟩; rotate_left; (· go_simp; try with_reducible rfl); simp only [Act.put, List.setIfInBounds_toArray, List.getElem_toArray, List.getElem_cons_succ, List.getElem_cons_zero, List.set_cons_succ, List.set_cons_zero])
                  (refine HoistK.yes (by rfl) (by kernel_rfl) ⟨?_, fun w hSw => ?_, ?_⟩; rotate_left; (· go_simp; try with_reducible rfl); simp only [Act.put, List.setIfInBounds_toArray, List.getElem_toArray, List.getElem_cons_succ, List.getElem_cons_zero, List.set_cons_succ, List.set_cons_zero])
                  (refine HoistK.yes (by rfl) (by kernel_rfl) ⟨?_, fun w hSw => ?_, ?_⟩; rotate_left; (· go_simp; try with_reducible rfl); simp only [Act.put, List.setIfInBounds_toArray, List.getElem_toArray, List.getElem_cons_succ, List.getElem_cons_zero, List.set_cons_succ, List.set_cons_zero])
                  (refine HoistK.yes (by rfl) (by kernel_rfl) ⟨?_, fun w hSw => ?_, ?_⟩; rotate_left; (· go_simp; try with_reducible rfl); simp only [Act.put, List.setIfInBounds_toArray, List.getElem_toArray, List.getElem_cons_succ, List.getElem_cons_zero, List.set_cons_succ, List.set_cons_zero])
                  (refine HoistK.yes (by rfl) (by kernel_rfl) ⟨?_, fun w hSw => ?_, ?_⟩; rotate_left; (· go_simp; try with_reducible rfl); simp only [Act.put, List.setIfInBounds_toArray, List.getElem_toArray, List.getElem_cons_succ, List.getElem_cons_zero, List.set_cons_succ, List.set_cons_zero])
                  (refine HoistK.yes (by rfl) (by kernel_rfl) ⟨?_, fun w hSw => ?_, ?_⟩; rotate_left; (· go_simp; try with_reducible rfl); simp only [Act.put, List.setIfInBounds_toArray, List.getElem_toArray, List.getElem_cons_succ, List.getElem_cons_zero, List.set_cons_succ, List.set_cons_zero])
                  (refine HoistK.yes (by rfl) (by kernel_rfl) ⟨?_, fun w hSw => ?_, ?_⟩; rotate_left; (· go_simp; try with_reducible rfl); simp only [Act.put, List.setIfInBounds_toArray, List.getElem_toArray, List.getElem_cons_succ, List.getElem_cons_zero, List.set_cons_succ, List.set_cons_zero])
                  (refine HoistK.yes (by rfl) (by kernel_rfl) ⟨?_, fun w hSw => ?_, ?_⟩; rotate_left; (· go_simp; try with_reducible rfl); simp only [Act.put, List.setIfInBounds_toArray, List.getElem_toArray, List.getElem_cons_succ, List.getElem_cons_zero, List.set_cons_succ, List.set_cons_zero])
                  (refine HoistK.yes (by rfl) (by kernel_rfl) ⟨?_, fun w hSw => ?_, ?_⟩; rotate_left; (· go_simp; simp only [Try.sizeOf61, Result.andThen]; try with_reducible rfl); simp only [Act.put, List.setIfInBounds_toArray, List.getElem_toArray, List.getElem_cons_succ, List.getElem_cons_zero, List.set_cons_succ, List.set_cons_zero])
                  (refine HoistK.yes (by rfl) (by kernel_rfl) ⟨?_, fun w hSw => ?_, ?_⟩; rotate_left; (· go_simp; simp only [Try.sizeOf35, Result.andThen]; rw [if_neg (by decide)]); simp only [Act.put, List.setIfInBounds_toArray, List.getElem_toArray, List.getElem_cons_succ, List.getElem_cons_zero, List.set_cons_succ, List.set_cons_zero])
                  (refine HoistK.yes (by rfl) (by kernel_rfl) ⟨?_, fun w hSw => ?_, ?_⟩; rotate_left; (· go_simp; try with_reducible rfl); simp only [Act.put, List.setIfInBounds_toArray, List.getElem_toArray, List.getElem_cons_succ, List.getElem_cons_zero, List.set_cons_succ, List.set_cons_zero])
                  (refine HoistK.yes (by rfl) (by kernel_rfl) ⟨?_, fun w hSw => ?_, ?_⟩; rotate_left; (· go_simp; try with_reducible rfl); simp only [Act.put, List.setIfInBounds_toArray, List.getElem_toArray, List.getElem_cons_succ, List.getElem_cons_zero, List.set_cons_succ, List.set_cons_zero])
                  (refine HoistK.yes (by rfl) (by kernel_rfl) ⟨?_, fun w hSw => ?_, ?_⟩; rotate_left; (· go_simp; simp only [Try.sizeOf35, Result.andThen]; try with_reducible rfl); simp only [Act.put, List.setIfInBounds_toArray, List.getElem_toArray, List.getElem_cons_succ, List.getElem_cons_zero, List.set_cons_succ, List.set_cons_zero])
                  (refine HoistK.yes (by rfl) (by kernel_rfl) ⟨?_, fun w hSw => ?_, ?_⟩; rotate_left; (· go_simp; try with_reducible rfl); simp only [Act.put, List.setIfInBounds_toArray, List.getElem_toArray, List.getElem_cons_succ, List.getElem_cons_zero, List.set_cons_succ, List.set_cons_zero])
                  refine HoistK.nil_ ?_
                  simp only [opsAt, List.filterMap_cons, List.filterMap_nil, List.getElem?_toArray, List.getElem?_cons_succ, List.getElem?_cons_zero]
                  refine Effects.nil_ fun _ hQ1 => ?_
                  go_wp2
                  exact ⟨⟨q + 1, by omega, by go_num, hown, hch3⟩, by simp [intOf]; omega⟩
              · have hms := mix_same t old q hq8 htl hol (by rw [hg.out, if_neg hcond])
                rw [hms] at hor2
                have c1 : ((k : Int) != last) = false := by simp; omega
                have c2 : ¬ torn < 0 := by omega
                have c3 : ¬ (q : Int) < torn := by omega
                clear hcond hms
                go_wp2_with fail
                exact ⟨⟨q + 1, by omega, by go_num, hor2, hch2⟩, by simp [intOf]; omega⟩
            · obtain rfl : q = 256 := by omega
              rw [List.take_of_length_le (by omega), List.drop_of_length_le (by omega), List.append_nil] at hor2
              go_wp2_with fail
              rw [← hstep.out] at hor2
              go_roundw
              case rel =>
                exact ⟨k + 1, _, by omega, by omega, by go_num, hnext.out.symm, hr1.trans hfn, hr2, hor2, hch2⟩
              case measure => simp [intOf]; omega
      · have hfin : k = min R.loose.length keep.length → ∀ W : World, W = ((wr.setCell ⟨p, 1, none⟩ (.slice none 0 0)).setCell ⟨p, 4, none⟩ (.bool false)).setCell ⟨p, 3, none⟩ (.int .i64 (-1)) → RefI W p S (R.up keep torn) ∧ Chg S wc W := by
          rintro hkm W rfl
          have hff : (R.up keep torn).firm = f := by rw [hf, hkm]; unfold RS.up; rw [hla]
          have hp1 : ∀ k, (Value.slice Af R.firm.length capf).ownBlock = some k → k ≠ p := fun k hk e => own_blk_ne hor hbr (by decide) (by rw [hk, e])
          refine ⟨⟨hSp, fun b hb => by have := hS b hb; have := hch.size; simp only [World.size_setCell]; omega, .slice Af R.firm.length capf, .slice none 0 0, ((hbr.set_ 1 _).set_ 4 _).set_ 3 _, ?_, hvf, Own.nil_ _ _ _, fun k hk => by simp [Value.ownBlock] at hk⟩, ?_⟩
          · rw [hff, hfn]
            exact own_keep hor (fun k hk => (Below.heap_setCell _ _ _ _ (hp1 k hk)).trans ((Below.heap_setCell _ _ _ _ (hp1 k hk)).trans (Below.heap_setCell _ _ _ _ (hp1 k hk))))
          · exact (((hch.mono (fun b hb => hvf b hb)).setOf hSp 1 _).setOf hSp 4 _).setOf hSp 3 _
        have hfz := hbr.frozen
        rcases (by omega : k = R.loose.length ∨ (k < R.loose.length ∧ k = keep.length)) with hx | ⟨hx, hx2⟩
        · have hxx : ¬ (k : Int) < (R.loose.length : Int) := by omega
          have hkm : k = min R.loose.length keep.length := by omega
          clear hx hlt2
          have hfin := Lib.hid (hfin hkm)
          clear hkm
          go_wp2
          go_end0
          exact ⟨rfl, hfin.out _ rfl⟩
        · have hxx : (k : Int) < (R.loose.length : Int) := by omega
          have hxx2 : ¬ (k : Int) < (keep.length : Int) := by omega
          have hkm : k = min R.loose.length keep.length := by omega
          clear hx hx2 hlt2
          have hfin := Lib.hid (hfin hkm)
          clear hkm
          go_wp2
          go_end0
          exact ⟨rfl, hfin.out _ rfl⟩

end Go.Proofs.Ythmjgcmaoniejaa
