/- Disk: Sync. -/
import Derived.Test.YtcgokafhkkmaoaaDkF
namespace Go.Proofs.Ytcgokafhkkmaoaa
open Go.RowKit

attribute [-simp] Try.isAgg37 Try.sizeOf37 Try.typeInfo37 Try.isAgg67 Try.sizeOf67 Try.typeInfo67

theorem flatW_length (l : List (Int × List Int)) (h : ∀ x ∈ l, x.2.length = 256) : (flatW l).length = l.length * 257 := by
  induction l with
  | nil => rfl
  | cons x r ih =>
    have := ih (fun y hy => h y (List.mem_cons_of_mem _ hy))
    have hx := h x (List.mem_cons_self ..)
    simp only [flatW, List.flatMap_cons, List.length_append, List.length_cons] at this ⊢
    simp only [wcells, List.length_cons, cu8_length, hx]
    omega
theorem flatW_get (l : List (Int × List Int)) (h : ∀ x ∈ l, x.2.length = 256) : ∀ (k : Nat) (x : Int × List Int), l[k]? = some x → ∀ j, j < 257 → (flatW l)[k * 257 + j]? = (wcells x)[j]? := by
  induction l with
  | nil => intro k g h; simp at h
  | cons y r ih =>
    intro k x hk j hj
    have hy := h y (List.mem_cons_self ..)
    have hyl : (wcells y).length = 257 := by simp [wcells, cu8_length, hy]
    rw [show flatW (y :: r) = wcells y ++ flatW r by simp [flatW]]
    rcases k with _ | k
    · obtain rfl : y = x := by simpa using hk
      rw [List.getElem?_append_left (by omega)]
      simp
    · rw [List.getElem?_append_right (by omega)]
      have h' : r[k]? = some x := by simpa using hk
      rw [← ih (fun z hz => h z (List.mem_cons_of_mem _ hz)) k x h' j hj]
      congr 1
      omega

/-- A write in a row of writes, as its cells lie. -/
theorem writes_at {w : World} {S : Nat → Prop} {A : Option Addr} {n cap : Nat} {l : List (Int × List Int)} (h : Cs w S 257 (.slice A n cap) l.length (flatW l)) (hl : ∀ x ∈ l, x.2.length = 256) {k : Nat} (hk : k < l.length) :
    ∃ b off, A = some ⟨b, off, none⟩ ∧ S b ∧ b < w.heap.size ∧ w.rangeAt b (off + k * 257) (wcells l[k]) := by
  obtain ⟨_, A', cap', e, _, _, hp⟩ := h
  injection e with e1 e2 e3
  subst e1
  obtain ⟨b, off, rfl, hs, hb, hc⟩ := hp (by omega)
  refine ⟨b, off, rfl, hs, hb, fun j v hv => ?_⟩
  have hj : j < 257 := by
    have := (List.getElem?_eq_some_iff.1 hv).1
    have hx := hl l[k] (List.getElem_mem hk)
    simp [wcells, cu8_length, hx] at this
    omega
  rw [Nat.add_assoc]
  exact hc _ _ ((flatW_get l hl k _ (List.getElem?_eq_getElem hk) j hj).trans hv)

theorem info_write2 : (Try.prog.info? 67).map (fun i => (i.zero, i.size)) = some (some (.agg (wcells (0, noughts)).toArray), 257) := by kernel_rfl

/-- All blocks are 256 bytes long. -/
def DS.Ok (D : DS) : Prop := (∀ x ∈ D.loose, x.2.length = 256) ∧ ∀ i l, D.firm i = some l → l.length = 256
def putF (f : Int → Option (List Int)) (x : Int × List Int) : Int → Option (List Int) := fun j => if j = x.1 then some x.2 else f j
/-- Sync: the disk behind it, the error. -/
def DS.sync (D : DS) : DS × Int :=
  if D.begins.2 = false then (D.begins.1, 44) else ({ D.begins.1 with firm := D.begins.1.loose.foldl putF D.begins.1.firm, loose := [], entries := D.begins.1.entries + D.begins.1.loose.length }, 0)

set_option maxHeartbeats 1000000 in
set_option maxRecDepth 100000 in
theorem sync_on (p : Nat) (S : Nat → Prop) (D D' : DS) (w : World) (h : DiskI w p S D) (hok : D'.Ok) (hf1 : -9223372036854775808 < D.fuse) (hf2 : D.fuse ≤ 9223372036854775807) (hb : D.begins = (D', true))
    (hw : ∀ x ∈ D'.loose, (Lit.int .i64 x.1).wf = true) (hn : D'.entries + D'.loose.length < maxLen) (hlen : D'.loose.length ≤ 140737488355328) :
    Calls Try.prog 24 #[.pointer (some ⟨p, 0, none⟩)] w fun e w' => e = .returned (.int .i64 0) ∧
      DiskI w' p S { D' with firm := D'.loose.foldl putF D'.firm, loose := [], entries := D'.entries + D'.loose.length } ∧ Chg S w w' := by
  have H := Lib.hid (begins_any p S D _ h hf1 hf2)
  rw [hb] at H
  go_enter Try.func24, Try.ntmps24
  go_wp2_with (go_at_call 31; refine H.out.mono ?_; rintro e w1 ⟨rfl, h1, c1⟩
               obtain ⟨hSp, hS, m, v, hSm, hb1, ho1, hv1, hM1⟩ := h1
               obtain ⟨A, cap, rfl⟩ := ho1.form
               have hc := hb1.cell)
  clear hc
  go_loopw [13] (fun i wr => ∃ j : Nat, j ≤ D'.loose.length ∧ i = .int .i64 j ∧ Blk wr p 51 #[.int .i64 D'.blocks, .int .i64 D'.room, .int .i64 D'.fuse, .bool D'.down, .map (some m), .slice A D'.loose.length cap] ∧
      Own wr 67 257 (.slice A D'.loose.length cap) D'.loose.length (flatW D'.loose) ∧ MapI Try.prog 3 wr m (D'.entries + j) (fun i => ((D'.loose.take j).foldl putF D'.firm i).map fun l => .agg (cu8 l).toArray) ∧ Chg (fun b => b = m) w1 wr) (fun i _ => D'.loose.length - (intOf i).toNat)
  case atStart => exact ⟨0, Nat.zero_le _, rfl, hb1, ho1, hM1, Chg.refl _ _⟩
  case round =>
    obtain ⟨j, hj, rfl, hbr, hor, hMr, hch⟩ := hrel
    by_cases hjl : j < D'.loose.length
    · obtain ⟨b, off, rfl, _, hbl, hrng⟩ := writes_at (Cs.of_own hor (S := S) hv1) hok.1 hjl
      have hxl : (wcells D'.loose[j]).length = 257 := by simp [wcells, cu8_length, hok.1 _ (List.getElem_mem hjl)]
      have hlc : (loadCellsFrom ⟨b, off + j * 257, none⟩ 0 257 #[]).run Try.prog wr = .ok (wcells D'.loose[j]).toArray wr := by
        have := run_loadCells_list (P := Try.prog) wr ⟨b, off + j * 257, none⟩ (wcells D'.loose[j]) (fun i v hv => by rw [Addr.add_mid]; exact hrng i v hv)
        rw [hxl] at this
        exact this
      obtain ⟨Z, hZ⟩ : ∃ Z, Z = (wcells (0, noughts)).toArray := ⟨_, rfl⟩
      have hz := (zero_of_info info_write2).1
      rw [← hZ] at hz
      have hZs : Z.size = 257 := by rw [hZ]; exact wcells_size _ (by rw [noughts, List.length_replicate])
      obtain ⟨c, hcx⟩ : ∃ c, c = (wcells D'.loose[j]).toArray := ⟨_, rfl⟩
      have hcs : c.size = 257 := by rw [hcx]; exact hxl
      have hc1 : c.all (·.oneCell') = true := by rw [hcx]; exact all_oneCell_toArray (wcells_one _)
      have hst := run_storeCells_new (P := Try.prog) wr 67 Z c (by rw [hcs]; exact (zero_of_info info_write2).2) (by rw [hZs, hcs]) hc1
      rw [← hcx] at hlc
      clear hZ hc1 hZs
      have Hcx := Lib.hid hcx; clear hcx
      go_wp2
      simp only [Try.sizeOf67, Result.andThen]
      rw [Oper.upon_value]
      go_wp2
      simp only [Try.isAgg67, Try.sizeOf67, Result.andThen, ↓reduceIte, hlc]
      rw [Oper.upon_value]
      clear hlc
      go_wp2
      simp only [Try.sizeOf67, Result.andThen, ↓reduceIte, hst]
      rw [Oper.upon_skip]
      clear hst hz hcs
      go_wp2
      obtain ⟨n, l, hxe⟩ : ∃ n l, D'.loose[j] = (n, l) := ⟨_, _, rfl⟩
      have hmem := List.getElem_mem hjl
      have hl := hok.1 _ hmem
      have hwn := hw _ hmem
      simp only [hxe] at hl hwn Hcx
      have hb3 := (Blk.new wr 67 c).drew
      have hbr3 := (hbr.alloc (.cells c 67)).drew
      have hor3 := Own.drew (w := wr.alloc (.cells c 67)) (hor.alloc _)
      have hM3 := hMr.keep (w' := (wr.alloc (.cells c 67)).drew) (Below.heap_alloc wr _ m hMr.lt)
      have hinfo : (Try.prog.info? 37).map (·.size) = some (cu8 l).length := by rw [cu8_length, hl]; exact (zero_of_info info_block).2
      refine wp_region_hoist [0, 1, 2, 3, 4, 5, 6, 7] [8] [] (fun w' => w'.cell? ⟨p, 4, none⟩ = some (.map (some m)) ∧ w'.cell? ⟨wr.heap.size, 0, none⟩ = some (.int .i64 n) ∧ w'.rangeAt wr.heap.size 1 (cu8 l))
        (by kernel_rfl) (by kernel_rfl) (by kernel_rfl) (by kernel_rfl) (by kernel_rfl) (by kernel_rfl) ⟨hbr3.cell 4, by rw [hb3.cell, Hcx.out]; rfl, fun j v hv => by rw [hb3.cell, Hcx.out, Nat.add_comm]; simpa [wcells] using hv⟩ ?_
      simp only [Act.put]
      (iterate 6 (refine HoistK.yes (by rfl) (by rfl) ⟨?_, fun w hSw => ?_, ?_⟩; rotate_left; (· go_simp; try with_reducible rfl); simp only [Act.put, List.setIfInBounds_toArray, List.getElem_toArray, List.getElem_cons_succ, List.getElem_cons_zero]))
      refine HoistK.yes (by rfl) (by rfl) ⟨?_, fun w hSw => ?_, ?_⟩; rotate_left
      · go_simp
        simp only [Try.sizeOf37, Result.andThen]
        rw [if_neg (by decide)]
      simp only [Act.put, List.setIfInBounds_toArray, List.getElem_toArray, List.getElem_cons_succ, List.getElem_cons_zero]
      refine HoistK.load (by rfl) (by rfl) 37 _ rfl wr.heap.size 1 rfl (cu8 l) _ (fun w hw => hw.2.2) Try.underlying37 rfl hinfo ?_
      simp only [Act.put, List.setIfInBounds_toArray, List.getElem_toArray, List.getElem_cons_succ, List.getElem_cons_zero]
      refine HoistK.nil_ ?_
      simp only [opsAt, List.filterMap_cons, List.filterMap_nil, List.getElem?_toArray, List.getElem?_cons_succ, List.getElem?_cons_zero]
      obtain ⟨w2, hrun, hM4, hc4⟩ := hM3.put Try.underlying3 Try.underlying48 (by omega) hwn (.agg (cu8 l).toArray)
      have hnp : ¬ p = m := fun e => hM3.ne_blk hbr3 e.symm
      have hbr4 := hbr3.chg hc4 hnp
      have hb4 := hb3.chg hc4 (fun e => by have := hMr.lt; omega)
      refine Effects.cons_ fun _ hQ1 => ?_
      go_wp2
      refine hQ1 _ _ ⟨hbr4.cell 4, by rw [hb4.cell, Hcx.out]; rfl, fun j v hv => by rw [hb4.cell, Hcx.out, Nat.add_comm]; simpa [wcells] using hv⟩ (Effects.nil_ fun _ hQ2 => ?_)
      clear hQ1 hrun
      have hne4 : (Value.slice (some { block := b, off := off }) D'.loose.length cap).ownBlock ≠ some m := hM3.ne_own hor3
      have hor4 := own_keep hor3 (fun k hk => hc4.block k (own_lt hor3 hk) (fun e => hne4 (by rw [hk, e])))
      go_wp2
      go_roundw
      case rel =>
        refine ⟨j + 1, by omega, by go_num, hbr4, hor4, ?_, ?_⟩
        · have e : (fun i => ((D'.loose.take (j + 1)).foldl putF D'.firm i).map fun l => Value.agg (cu8 l).toArray) = fun i => if i = n then some (.agg (cu8 l).toArray) else ((D'.loose.take j).foldl putF D'.firm i).map fun l => .agg (cu8 l).toArray := by
            funext i
            rw [List.take_succ_eq_append_getElem hjl, List.foldl_append, hxe]
            simp only [List.foldl_cons, List.foldl_nil, putF]
            split <;> rfl
          rw [e]
          exact hM4
        · exact (hch.alloc _).drew.trans hc4 (fun _ h => .inl h)
      case measure => simp [intOf]; omega
    · have hc := hbr.cell
      have hf := hbr.frozen
      go_wp2
      go_ret
      have hjj : j = D'.loose.length := by omega
      subst hjj
      rw [List.take_length] at hMr
      have hne : m ≠ p := hMr.ne_blk hbr
      refine ⟨rfl, ⟨hSp, fun b hb => by have := hS b hb; have := hch.size; simp only [World.size_setCell]; omega, m, .slice none 0 0, hSm, hbr.set_ 5 _, Own.nil_ _ _ _, fun k hk => by simp [Value.ownBlock] at hk, hMr.keep (Below.heap_setCell _ _ _ _ hne)⟩, ?_⟩
      exact (c1.trans (hch.mono (fun b hb => by subst hb; exact hSm)) (fun _ h => .inl h)).setOf hSp 5 _

theorem DS.begins_same (D : DS) : D.begins.1.blocks = D.blocks ∧ D.begins.1.room = D.room ∧ D.begins.1.firm = D.firm ∧ D.begins.1.loose = D.loose ∧ D.begins.1.entries = D.entries := by
  unfold DS.begins; split <;> (try split) <;> (try split) <;> exact ⟨rfl, rfl, rfl, rfl, rfl⟩

theorem sync_any (p : Nat) (S : Nat → Prop) (D : DS) (w : World) (h : DiskI w p S D) (hok : D.Ok) (hf1 : -9223372036854775808 < D.fuse) (hf2 : D.fuse ≤ 9223372036854775807)
    (hw : ∀ x ∈ D.loose, (Lit.int .i64 x.1).wf = true) (hn : D.entries + D.loose.length < maxLen) (hlen : D.loose.length ≤ 140737488355328) :
    Calls Try.prog 24 #[.pointer (some ⟨p, 0, none⟩)] w fun e w' => e = .returned (.int .i64 D.sync.2) ∧ DiskI w' p S D.sync.1 ∧ Chg S w w' := by
  obtain ⟨D', ok, hb⟩ : ∃ D' ok, D.begins = (D', ok) := ⟨_, _, rfl⟩
  obtain ⟨_, _, e1, e2, e3⟩ := D.begins_same
  rw [hb] at e1 e2 e3
  cases ok with
  | false =>
    have e : D.sync = (D', 44) := by unfold DS.sync; rw [hb]; simp
    rw [e]
    have H := Lib.hid (begins_any p S D _ h hf1 hf2)
    rw [hb] at H
    clear e hb
    go_enter Try.func24, Try.ntmps24
    go_wp2_with (go_at_call 31; refine H.out.mono ?_; rintro e w1 ⟨rfl, h1, c1⟩)
    go_ret
    exact ⟨rfl, h1, c1⟩
  | true =>
    have e : D.sync = ({ D' with firm := D'.loose.foldl putF D'.firm, loose := [], entries := D'.entries + D'.loose.length }, 0) := by unfold DS.sync; rw [hb]; simp
    rw [e]
    refine sync_on p S D D' w h ⟨?_, ?_⟩ hf1 hf2 hb ?_ ?_ ?_
    · rw [e2]; exact hok.1
    · rw [e1]; exact hok.2
    · rw [e2]; exact hw
    · rw [e2, e3]; exact hn
    · rw [e2]; exact hlen

end Go.Proofs.Ytcgokafhkkmaoaa
