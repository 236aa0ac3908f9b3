/- Texts joined: Open CsQ. -/
import Derived.Test.YtkclkmjlodomkaaGreatDoorMa
import Derived.Test.YtkclkmjlodomkaaGreatDoorMe
import Derived.OpenShut
namespace Go.Proofs.YtkclkmjlodomkaaGreatDoor
open List (setIfInBounds_toArray getElem_toArray getElem_cons_succ getElem_cons_zero set_cons_succ set_cons_zero filterMap_cons filterMap_nil getElem?_toArray getElem?_cons_succ getElem?_cons_zero)
section
open Go.ChangeShapes Go.WideShapes Go.ChangeAt Go.RowKit Go.Deep
mutual
def Sh.fits (P : Program) : Sh → TypeId → Prop
  | .num sg, t => P.underlying t = some (.int (nk sg))
  | .dig, t => ∃ e, P.underlying t = some (.array 32 e) ∧ P.underlying e = some (.int .u8) ∧ P.cellsOf e = 1 ∧ P.cellsOf t = 32
  | .byt, t => ∃ e, P.underlying t = some (.slice e) ∧ P.underlying e = some (.int .u8) ∧ P.cellsOf e = 1
  | .bool, t => P.underlying t = some .bool
  | .list s, t => ∃ e, P.underlying t = some (.slice e) ∧ s.fits P e ∧ P.cellsOf e = s.cells ∧ 0 < s.cells
  | .tup fs, t => ∃ F, P.underlying t = some (.struct F) ∧ fs.fits P F.toList 0 ∧ P.cellsOf t = fs.cells
def Fs.fits (P : Program) : Fs → List Field → Nat → Prop
  | .nil, [], _ => True
  | .cons s fs, f :: l, o => f.offset = o ∧ P.cellsOf f.type = s.cells ∧ s.fits P f.type ∧ fs.fits P l (o + s.cells)
  | _, _, _ => False
end
mutual
def Sh.plain : Sh → Bool
  | .num _ => true
  | .dig => true
  | .byt => false
  | .bool => true
  | .list _ => false
  | .tup fs => fs.plain
def Fs.plain : Fs → Bool
  | .nil => true
  | .cons s fs => s.plain && fs.plain
end
theorem choose_list {α : Type} {p : Nat → α → Prop} : ∀ (n : Nat), (∀ i, i < n → ∃ x, p i x) → ∃ l : List α, l.length = n ∧ ∀ i x, l[i]? = some x → p i x
  | 0, _ => ⟨[], rfl, fun i x h => by simp at h⟩
  | n + 1, h => by
    obtain ⟨l, hl, hp⟩ := choose_list n fun i hi => h i (by omega)
    obtain ⟨x, hx⟩ := h n (by omega)
    refine ⟨l ++ [x], by simp [hl], fun i y hy => ?_⟩
    rcases Nat.lt_trichotomy i l.length with h1 | h1 | h1
    · rw [List.getElem?_append_left h1] at hy; exact hp i y hy
    · subst h1
      rw [List.getElem?_append_right (Nat.le_refl _), Nat.sub_self] at hy
      injection hy with hy
      subst hy
      rw [hl]; exact hx
    · rw [List.getElem?_eq_none (by simp; omega)] at hy; cases hy
theorem flatten_back {m : Nat} (hm : 0 < m) (css : List (List Value)) (hc : ∀ c ∈ css, c.length = m) {j : Nat} {u : Value} (h : css.flatten[j]? = some u) : ∃ c, css[j / m]? = some c ∧ c[j % m]? = some u := by
  have hlen : css.flatten.length = css.length * m := by
    clear h
    induction css with
    | nil => simp
    | cons c r ih => rw [List.flatten_cons, List.length_append, hc c (by simp), ih fun d hd => hc d (by simp [hd]), List.length_cons, Nat.succ_mul]; omega
  have hj : j < css.length * m := by rw [← hlen]; exact (List.getElem?_eq_some_iff.1 h).1
  have hk : j / m < css.length := Nat.div_lt_of_lt_mul (by rw [Nat.mul_comm]; exact hj)
  refine ⟨css[j / m], List.getElem?_eq_getElem hk, ?_⟩
  have := flatten_get css (j / m) css[j / m] hc (List.getElem?_eq_getElem hk) (j % m) (Nat.mod_lt _ hm)
  rw [← this, Nat.mul_comm, Nat.div_add_mod]
  exact h
theorem wf_nk (sg : Bool) (n : Int) (h : (Lit.int (nk sg) n).wf = true) : (nk sg).wrap n = n := by
  cases sg
  · simp [Lit.wf, nk, IntKind.min, IntKind.max, IntKind.signed, IntKind.bits] at h
    rw [wrap_u]; omega
  · simp [Lit.wf, nk, IntKind.min, IntKind.max, IntKind.signed, IntKind.bits] at h
    rw [wrap_s]; split <;> omega
section
variable {H : Type} {enc : TypeId × Value → H} {P : Program} {w : World} {base : Nat} {held : Bool}
theorem trod_int_open {t : TypeId} {k : IntKind} {fuel : Nat} {cs : List Value} {x : DataW H × List MemPlace} (ht : P.underlying t = some (.int k)) (h : DataW.trod enc P w base (fun _ => true) held fuel t cs = some x) : ∃ n, cs = [.int k n] ∧ (Lit.int k n).wf = true := by
  cases fuel with
  | zero => simp [DataW.trod] at h
  | succ m =>
    unfold DataW.trod at h
    rw [ht] at h
    split at h <;> simp_all
theorem trod_bool_open {t : TypeId} {fuel : Nat} {cs : List Value} {x : DataW H × List MemPlace} (ht : P.underlying t = some .bool) (h : DataW.trod enc P w base (fun _ => true) held fuel t cs = some x) : ∃ b, cs = [.bool b] := by
  cases fuel with
  | zero => simp [DataW.trod] at h
  | succ m =>
    unfold DataW.trod at h
    rw [ht] at h
    split at h <;> simp_all
theorem byte_of {z : Int} (h : (Lit.int .u8 z).wf = true) : (Value.int .u8 z) = .int .u8 ((UInt8.ofNat z.toNat).toNat : Int) := by
  simp [Lit.wf, IntKind.min, IntKind.max, IntKind.signed, IntKind.bits] at h
  congr 1
  rw [UInt8.toNat_ofNat']
  omega
theorem joinP_bulk {α : Type} (f : α → List UInt8) : ∀ (l : List α) (ds : List (DataW H)), l.length = ds.length → (∀ (i : Nat) (a : α) (d : DataW H), l[i]? = some a → ds[i]? = some d → (f a).length + 8 ≤ 24 * Rows.uptoBulk d) → (joinP (l.map f)).length ≤ 24 * Rows.uptoBulkAll ds
  | [], [], _, _ => by simp [joinP]
  | [], _ :: _, h, _ => by simp at h
  | _ :: _, [], h, _ => by simp at h
  | a :: l, d :: ds, h, hb => by
    have h1 := hb 0 a d rfl rfl
    have h2 := joinP_bulk f l ds (by simpa using h) fun i a d h3 h4 => hb (i + 1) a d h3 h4
    simp only [List.map_cons, joinP, List.length_append, be8_length, Rows.uptoBulkAll]
    omega
set_option maxHeartbeats 1000000 in
mutual
theorem Sh.open_ : ∀ (s : Sh) (t : TypeId) (n : Nat) (cs : List Value) (x : DataW H × List MemPlace), s.fits P t → (s.plain = true ∨ Rows.uptoBulk x.1 ≤ 1048576) → DataW.trod enc P w base (fun _ => true) held n t cs = some x →
    ∃ y : s.El, s.rep w (fun b => b < w.heap.size) y cs ∧ (s.enc y).length + 8 ≤ 24 * Rows.uptoBulk x.1
  | .num sg, t, n, cs, x, hf, _, h => by
    obtain ⟨z, rfl, hw⟩ := trod_int_open hf h
    refine ⟨z, ⟨rfl, wf_nk sg z hw⟩, ?_⟩
    have h1 : (numB z).length = 8 := numB_length z
    have h2 := bulks.one_le x.1
    show (numB z).length + 8 ≤ _
    omega
  | .bool, t, n, cs, x, hf, _, h => by
    obtain ⟨b, rfl⟩ := trod_bool_open hf h
    refine ⟨b, rfl, ?_⟩
    have h1 : (truthB b).length = 1 := by cases b <;> rfl
    have h2 := bulks.one_le x.1
    show (truthB b).length + 8 ≤ _
    omega
  | .dig, t, n, cs, x, ⟨e, ht, he, hce, hct⟩, _, h => by
    obtain ⟨xs, m, rfl, rfl, hl, hxl, hi⟩ := DataW.trod_array ht h
    rw [hct] at hl
    obtain ⟨l, hll, hlp⟩ := choose_list (α := UInt8) (p := fun i b => cs[i]? = some (.int .u8 b.toNat)) 32 fun i hi32 => by
      have h1 := hi i hi32
      rw [hce, Nat.mul_one] at h1
      have hx : xs[i]? = some (xs[i]'(by omega)) := List.getElem?_eq_getElem _
      rw [hx] at h1
      obtain ⟨z, hz, hw⟩ := trod_int_open he h1
      refine ⟨UInt8.ofNat z.toNat, ?_⟩
      have h2 : cs.drop i = cs[i]'(by omega) :: cs.drop (i + 1) := List.drop_eq_getElem_cons (by omega)
      rw [h2] at hz
      simp only [List.take_succ_cons, List.take_zero, List.cons.injEq, and_true] at hz
      rw [List.getElem?_eq_getElem (by omega), hz, byte_of hw]
    refine ⟨l, ⟨?_, hll⟩, ?_⟩
    · apply List.ext_getElem?
      intro i
      rcases Nat.lt_or_ge i 32 with h1 | h1
      · have h2 : l[i]? = some (l[i]'(by omega)) := List.getElem?_eq_getElem _
        rw [hlp i _ h2, u8s_get l i (by omega)]
      · rw [List.getElem?_eq_none (by omega), List.getElem?_eq_none (by rw [u8s_length]; omega)]
    · show List.length (α := UInt8) l + 8 ≤ _
      have h2 := bulks.length_le (xs.map (·.1))
      rw [List.length_map, hxl] at h2
      simp only [Rows.uptoBulk]
      omega
  | .byt, t, n, cs, x, ⟨e, ht, he, hce⟩, hB, h => by
    rcases open_ints ht he hce h with ⟨hcs, hx⟩ | ⟨a, len, cap, zs, hcs, _, hl, hm, hz, hx, hcell, hwz⟩
    · subst hcs hx
      exact ⟨[], ⟨_, rfl, Bs.nil_ _ _⟩, by simp [Sh.enc, Rows.uptoBulk]⟩
    · subst hcs hx
      simp only [if_true] at hz
      have hB : Rows.uptoBulk (DataW.slice (lits (H := H) .u8 (zs.take len)) (lits (H := H) .u8 (zs.drop len))) ≤ 1048576 := hB.elim (fun h => by cases h) id
      have hsl := bulks.slice_le (lits (H := H) .u8 (zs.take len)) (lits (H := H) .u8 (zs.drop len))
      rw [show (lits (H := H) .u8 (zs.take len)).length = len by simp [lits]; omega] at hsl
      have hlen : ((zs.take len).map fun z => UInt8.ofNat z.toNat).length = len := by simp; omega
      refine ⟨(zs.take len).map fun z => UInt8.ofNat z.toNat, ⟨_, rfl, ⟨by rw [u8s_length]; omega, some a, cap, by rw [hlen], by rw [hlen]; exact hl, hm, fun hpos => ?_⟩, ?_⟩, ?_⟩
      · rw [hlen] at hpos
        obtain ⟨b, off, spot⟩ := a
        have hc0 := hcell 0 (by omega)
        obtain rfl : spot = none := by simpa [Addr.add] using World.cell?_spot hc0
        refine ⟨b, off, rfl, by have := World.block_lt_of_cell? _ _ hc0; simpa [Addr.add] using this, by have := World.block_lt_of_cell? _ _ hc0; simpa [Addr.add] using this, fun j u hu => ?_⟩
        have hj : j < len := by have := (List.getElem?_eq_some_iff.1 hu).1; rw [u8s_length] at this; omega
        have hcj := hcell j (by omega)
        rw [add_plain] at hcj
        rw [hcj]
        have hjz : j < zs.length := by omega
        simp only [u8s, List.map_map, List.getElem?_map, List.getElem?_take, if_pos hj, List.getElem?_eq_getElem hjz, Option.map_some, Function.comp_apply] at hu
        rw [← hu]
        simp only [List.getD, List.getElem?_eq_getElem hjz, Option.getD_some]
        rw [byte_of (hwz zs[j] (List.getElem_mem hjz))]
      · rw [hlen]; omega
      · show List.length (α := UInt8) _ + 8 ≤ _
        show (List.map (fun z : Int => UInt8.ofNat z.toNat) (List.take len zs)).length + 8 ≤ _
        rw [hlen]
        show len + 8 ≤ 24 * Rows.uptoBulk (DataW.slice (lits (H := H) .u8 (zs.take len)) (lits (H := H) .u8 (zs.drop len)))
        omega
  | .list s, t, n, cs, x, ⟨e, ht, hfe, hce, h0⟩, hB, h => by
    rcases open_slice ht h with ⟨hcs, hx⟩ | ⟨a, len, cap, m, n', D, Pl, hcs, _, hl, hm, hmm, hx, hi⟩
    · subst hcs hx
      exact ⟨[], ⟨_, [], rfl, Cs.nil_ _ _ _, .nil⟩, by simp [Sh.enc, joinB_length, joinP, Rows.uptoBulk]⟩
    · subst hcs hx
      simp only [if_true] at hmm
      have hmm' := hmm.symm
      subst hmm'
      clear hmm
      have hB : Rows.uptoBulk (DataW.slice ((List.range len).map D) ((List.range (cap - len)).map fun j => D (len + j))) ≤ 1048576 := hB.elim (fun h => by cases h) id
      have hpart : ∀ i, i < len → Rows.uptoBulk (D i) ≤ 1048576 := fun i hil => by
        have := bulks.part_le (List.mem_map.2 ⟨i, List.mem_range.2 hil, rfl⟩ : D i ∈ (List.range len).map D)
        simp only [Rows.uptoBulk] at hB
        omega
      obtain ⟨l, hll, hlp⟩ := choose_list (α := s.El × List Value) (p := fun i z => (∀ j u, z.2[j]? = some u → w.cell? ((a.add (i * P.cellsOf e)).add j) = some u) ∧ s.rep w (fun b => b < w.heap.size) z.1 z.2 ∧ (s.enc z.1).length + 8 ≤ 24 * Rows.uptoBulk (D i)) len fun i hil => by
        obtain ⟨cs', hc, ht'⟩ := hi i (by omega)
        obtain ⟨y, hr, hb⟩ := Sh.open_ s e n' cs' (D i, Pl i) hfe (.inr (hpart i hil)) ht'
        obtain ⟨_, hcl, hat⟩ := World.cells?_some hc
        exact ⟨(y, cs'), fun j u hu => by have hjl : j < cs'.length := (List.getElem?_eq_some_iff.1 hu).1; rw [hat j (by omega)]; exact hu, hr, hb⟩
      have hcl : ∀ c ∈ l.map (·.2), c.length = s.cells := fun c hc => by
        obtain ⟨z, hz, rfl⟩ := List.mem_map.1 hc
        obtain ⟨i, hi, rfl⟩ := List.getElem_of_mem hz
        exact Sh.rep_size s _ _ (hlp i _ (List.getElem?_eq_getElem hi)).2.1
      have hfl : (l.map (·.2)).flatten.length = len * s.cells := by
        rw [← hll]
        clear hlp hll
        induction l with
        | nil => simp
        | cons z r ih => rw [List.map_cons, List.flatten_cons, List.length_append, hcl z.2 (by simp), ih fun c hc => hcl c (by simp at hc ⊢; exact .inr hc), List.length_cons, Nat.succ_mul]; omega
      refine ⟨l.map (·.1), ⟨_, l.map (·.2), rfl, ⟨by rw [hfl]; simp [hll], some a, cap, by simp [hll], by simpa [hll] using hl, hm, fun hpos => ?_⟩, ?_⟩, ?_⟩
      · have hpos : 0 < len := by simpa [hll] using hpos
        obtain ⟨b, off, spot⟩ := a
        have hz0 : l[0]? = some (l[0]'(by omega)) := List.getElem?_eq_getElem _
        obtain ⟨q1, q2, _⟩ := hlp 0 _ hz0
        have hsz := Sh.rep_size s _ _ q2
        have hc0 := q1 0 _ (List.getElem?_eq_getElem (by omega))
        rw [Nat.zero_mul] at hc0
        obtain rfl : spot = none := by simpa [Addr.add] using World.cell?_spot hc0
        refine ⟨b, off, rfl, by have := World.block_lt_of_cell? _ _ hc0; simpa [Addr.add] using this, by have := World.block_lt_of_cell? _ _ hc0; simpa [Addr.add] using this, fun j u hu => ?_⟩
        obtain ⟨c, hc1, hc2⟩ := flatten_back h0 _ hcl hu
        rw [List.getElem?_map] at hc1
        obtain ⟨z, hz, rfl⟩ := Option.map_eq_some_iff.1 hc1
        have := (hlp _ z hz).1 _ u hc2
        rw [add_plain, add_plain, hce, Nat.add_assoc, Nat.mul_comm, Nat.div_add_mod] at this
        exact this
      · have : ∀ (l : List (s.El × List Value)), (∀ z ∈ l, s.rep w (fun b => b < w.heap.size) z.1 z.2) → Two (s.rep w (fun b => b < w.heap.size)) (l.map (·.1)) (l.map (·.2)) := by
          intro l
          induction l with
          | nil => intro _; exact .nil
          | cons z r ih => intro hz; exact .cons (hz z (by simp)) (ih fun y hy => hz y (by simp [hy]))
        exact this l fun z hz => by obtain ⟨i, hi, rfl⟩ := List.getElem_of_mem hz; exact (hlp i _ (List.getElem?_eq_getElem hi)).2.1
      · show (joinB (List.map s.enc (l.map (·.1)))).length + 8 ≤ 24 * Rows.uptoBulk (DataW.slice ((List.range len).map D) ((List.range (cap - len)).map fun j => D (len + j)))
        have hjb := joinP_bulk s.enc (l.map (·.1)) ((List.range len).map D) (by simp [hll]) fun i a d h1 h2 => by
          rw [List.getElem?_map] at h1 h2
          obtain ⟨z, hz, rfl⟩ := Option.map_eq_some_iff.1 h1
          have hil := (List.getElem?_eq_some_iff.1 hz).1
          rw [List.getElem?_range (by omega)] at h2
          injection h2 with h2
          subst h2
          exact (hlp i z hz).2.2
        rw [joinB_length]
        have := bulks.slice_elems ((List.range len).map D) ((List.range (cap - len)).map fun j => D (len + j))
        omega
  | .tup fs, t, n, cs, x, ⟨F, ht, hf, hct⟩, hB, h => by
    obtain ⟨xs, m, rfl, rfl, hl, hxl, hi⟩ := DataW.trod_struct ht h
    obtain ⟨y, hr, hb⟩ := Fs.open_ fs F.toList 0 m cs xs hf (hB.imp id fun h => by simp only [Rows.uptoBulk] at h; omega) (fun i f hif => hi i f (by simpa using hif)) (by simpa using hxl) (by rw [Nat.zero_add, hl, hct])
    rw [List.drop_zero] at hr
    refine ⟨y, hr, ?_⟩
    show (joinB (fs.encs y)).length + 8 ≤ _
    rw [joinB_length]
    simp only [Rows.uptoBulk]
    omega
theorem Fs.open_ : ∀ (fs : Fs) (l : List Field) (o m : Nat) (cs : List Value) (xs : List (DataW H × List MemPlace)), fs.fits P l o → (fs.plain = true ∨ Rows.uptoBulkAll (xs.map (·.1)) ≤ 1048576) →
    (∀ (i : Nat) (f : Field), l[i]? = some f → DataW.trod enc P w base (fun _ => true) held m f.type ((cs.drop f.offset).take (P.cellsOf f.type)) = xs[i]?) → xs.length = l.length → o + fs.cells = cs.length →
    ∃ y : fs.El, fs.rep w (fun b => b < w.heap.size) y (cs.drop o) ∧ (joinP (fs.encs y)).length ≤ 24 * Rows.uptoBulkAll (xs.map (·.1))
  | .nil, [], o, m, cs, xs, _, _, _, _, hl => by
    have hl : o + 0 = cs.length := hl
    exact ⟨(), List.drop_eq_nil_of_le (by omega), Nat.zero_le _⟩
  | .nil, _ :: _, _, _, _, _, h, _, _, _, _ => by cases h
  | .cons _ _, [], _, _, _, _, h, _, _, _, _ => by cases h
  | .cons s fs, f :: l, o, m, cs, xs, ⟨ho, hc, hs, hfs⟩, hB, hi, hx, hl => by
    have hl : o + (s.cells + fs.cells) = cs.length := hl
    cases xs with
    | nil => simp at hx
    | cons x xs =>
      have h1 := hi 0 f rfl
      rw [ho, hc] at h1
      simp only [List.map_cons, Rows.uptoBulkAll] at hB
      obtain ⟨a, ha, hab⟩ := Sh.open_ s f.type m _ x hs (hB.imp (fun h => by have h : (s.plain && fs.plain) = true := h; simp at h; exact h.1) fun h => by omega) h1
      obtain ⟨b, hb, hbb⟩ := Fs.open_ fs l (o + s.cells) m cs xs hfs (hB.imp (fun h => by have h : (s.plain && fs.plain) = true := h; simp at h; exact h.2) fun h => by omega) (fun i g hg => hi (i + 1) g hg) (by simpa using hx) (by omega)
      refine ⟨(a, b), ⟨_, _, ?_, ha, hb⟩, ?_⟩
      · rw [← List.drop_drop, List.take_append_drop]
      · show (joinP (s.enc a :: fs.encs b)).length ≤ _
        simp only [joinP, List.length_append, be8_length, List.map_cons, Rows.uptoBulkAll]
        omega
end
end
end
section
open Go.ChangeShapes Go.WideShapes Go.ChangeAt Go.RowKit
theorem fits_num {P : Program} {sg : Bool} {t : TypeId} (h : P.underlying t = some (.int (nk sg))) : (Sh.num sg).fits P t := h
theorem fits_bool {P : Program} {t : TypeId} (h : P.underlying t = some .bool) : Sh.bool.fits P t := h
theorem fitsSig : tSig.fits Tryz.prog 148 := ⟨_, Tryz.underlying148, ⟨rfl, by kernel_rfl, (fits_num (by kernel_rfl)), ⟨rfl, by kernel_rfl, ⟨5, by kernel_rfl, Tryz.underlying5, by kernel_rfl, by kernel_rfl⟩, trivial⟩⟩, by kernel_rfl⟩
theorem fitsHeader : tHeader.fits Tryz.prog 125 := ⟨_, Tryz.underlying125, ⟨rfl, by kernel_rfl, (fits_num (by kernel_rfl)), ⟨rfl, by kernel_rfl, (fits_num (by kernel_rfl)), ⟨rfl, by kernel_rfl, (fits_num (by kernel_rfl)), ⟨rfl, by kernel_rfl, (fits_num (by kernel_rfl)), ⟨rfl, by kernel_rfl, ⟨5, by kernel_rfl, Tryz.underlying5, by kernel_rfl, by kernel_rfl⟩, ⟨rfl, by kernel_rfl, ⟨5, by kernel_rfl, Tryz.underlying5, by kernel_rfl, by kernel_rfl⟩, ⟨rfl, by kernel_rfl, ⟨5, by kernel_rfl, Tryz.underlying5, by kernel_rfl, by kernel_rfl⟩, ⟨rfl, by kernel_rfl, (fits_num (by kernel_rfl)), trivial⟩⟩⟩⟩⟩⟩⟩⟩, by kernel_rfl⟩
theorem fitsQC : tQC.fits Tryz.prog 88 := ⟨_, Tryz.underlying88, ⟨rfl, by kernel_rfl, (fits_num (by kernel_rfl)), ⟨rfl, by kernel_rfl, (fits_num (by kernel_rfl)), ⟨rfl, by kernel_rfl, (fits_num (by kernel_rfl)), ⟨rfl, by kernel_rfl, ⟨5, by kernel_rfl, Tryz.underlying5, by kernel_rfl, by kernel_rfl⟩, ⟨rfl, by kernel_rfl, ⟨3, by kernel_rfl, (fits_num (by kernel_rfl)), by kernel_rfl, by decide⟩, ⟨rfl, by kernel_rfl, ⟨148, by kernel_rfl, fitsSig, by kernel_rfl, by decide⟩, trivial⟩⟩⟩⟩⟩⟩, by kernel_rfl⟩
theorem fitsCommit : tCommit.fits Tryz.prog 90 := ⟨_, Tryz.underlying90, ⟨rfl, by kernel_rfl, ⟨125, by kernel_rfl, fitsHeader, by kernel_rfl, by decide⟩, ⟨rfl, by kernel_rfl, fitsQC, trivial⟩⟩, by kernel_rfl⟩
theorem fitsFact : tFact.fits Tryz.prog 92 := ⟨_, Tryz.underlying92, ⟨rfl, by kernel_rfl, fitsCommit, ⟨rfl, by kernel_rfl, ⟨5, by kernel_rfl, Tryz.underlying5, by kernel_rfl, by kernel_rfl⟩, ⟨rfl, by kernel_rfl, ⟨5, by kernel_rfl, Tryz.underlying5, by kernel_rfl⟩, ⟨rfl, by kernel_rfl, (fits_bool (by kernel_rfl)), ⟨rfl, by kernel_rfl, ⟨5, by kernel_rfl, Tryz.underlying5, by kernel_rfl⟩, trivial⟩⟩⟩⟩⟩, by kernel_rfl⟩
theorem fitsRecord : tRecord.fits Tryz.prog 75 := ⟨_, Tryz.underlying75, ⟨rfl, by kernel_rfl, (fits_num (by kernel_rfl)), ⟨rfl, by kernel_rfl, ⟨3, by kernel_rfl, (fits_num (by kernel_rfl)), by kernel_rfl, by decide⟩, ⟨rfl, by kernel_rfl, ⟨32, by kernel_rfl, ⟨3, by kernel_rfl, (fits_num (by kernel_rfl)), by kernel_rfl, by decide⟩, by kernel_rfl, by decide⟩, trivial⟩⟩⟩, by kernel_rfl⟩
theorem fitsTx : tTx.fits Tryz.prog 40 := ⟨_, Tryz.underlying40, ⟨rfl, by kernel_rfl, (fits_num (by kernel_rfl)), ⟨rfl, by kernel_rfl, (fits_num (by kernel_rfl)), ⟨rfl, by kernel_rfl, (fits_num (by kernel_rfl)), ⟨rfl, by kernel_rfl, (fits_num (by kernel_rfl)), ⟨rfl, by kernel_rfl, (fits_num (by kernel_rfl)), ⟨rfl, by kernel_rfl, (fits_num (by kernel_rfl)), ⟨rfl, by kernel_rfl, (fits_num (by kernel_rfl)), ⟨rfl, by kernel_rfl, ⟨5, by kernel_rfl, Tryz.underlying5, by kernel_rfl, by kernel_rfl⟩, ⟨rfl, by kernel_rfl, (fits_num (by kernel_rfl)), ⟨rfl, by kernel_rfl, ⟨92, by kernel_rfl, fitsFact, by kernel_rfl, by decide⟩, trivial⟩⟩⟩⟩⟩⟩⟩⟩⟩⟩, by kernel_rfl⟩
theorem fitsAccount : tAccount.fits Tryz.prog 57 := ⟨_, Tryz.underlying57, ⟨rfl, by kernel_rfl, (fits_num (by kernel_rfl)), ⟨rfl, by kernel_rfl, (fits_num (by kernel_rfl)), ⟨rfl, by kernel_rfl, (fits_num (by kernel_rfl)), trivial⟩⟩⟩, by kernel_rfl⟩
theorem fitsLock : tLock.fits Tryz.prog 71 := ⟨_, Tryz.underlying71, ⟨rfl, by kernel_rfl, ⟨5, by kernel_rfl, Tryz.underlying5, by kernel_rfl, by kernel_rfl⟩, ⟨rfl, by kernel_rfl, (fits_num (by kernel_rfl)), ⟨rfl, by kernel_rfl, (fits_num (by kernel_rfl)), ⟨rfl, by kernel_rfl, (fits_num (by kernel_rfl)), ⟨rfl, by kernel_rfl, (fits_num (by kernel_rfl)), ⟨rfl, by kernel_rfl, (fits_num (by kernel_rfl)), ⟨rfl, by kernel_rfl, (fits_num (by kernel_rfl)), trivial⟩⟩⟩⟩⟩⟩⟩, by kernel_rfl⟩
theorem fitsState : tState.fits Tryz.prog 34 := ⟨_, Tryz.underlying34, ⟨rfl, by kernel_rfl, (fits_num (by kernel_rfl)), ⟨rfl, by kernel_rfl, ⟨57, by kernel_rfl, fitsAccount, by kernel_rfl, by decide⟩, ⟨rfl, by kernel_rfl, ⟨71, by kernel_rfl, fitsLock, by kernel_rfl, by decide⟩, ⟨rfl, by kernel_rfl, ⟨37, by kernel_rfl, ⟨5, by kernel_rfl, Tryz.underlying5, by kernel_rfl, by kernel_rfl⟩, by kernel_rfl, by decide⟩, ⟨rfl, by kernel_rfl, ⟨75, by kernel_rfl, fitsRecord, by kernel_rfl, by decide⟩, ⟨rfl, by kernel_rfl, ⟨3, by kernel_rfl, (fits_num (by kernel_rfl)), by kernel_rfl, by decide⟩, trivial⟩⟩⟩⟩⟩⟩, by kernel_rfl⟩
theorem bulk_le {n k : Nat} (h : n + 8 ≤ 24 * k) (hk : k ≤ 1048576) : n ≤ 1099511627776 := by omega
theorem open_thing {P : Program} {H : Type} {enc : TypeId × Value → H} {W : World} {base : Nat} {fs : Fs} {t : TypeId} {v : Value} {d : DataW H} {p : List MemPlace} (hf : (Sh.tup fs).fits P t) (hB : (Sh.tup fs).plain = true ∨ Rows.uptoBulk d ≤ 1048576)
    (hv : Value.okWide P W .any base t v) (h : DataW.Trod enc P W 0 (fun _ => true) true t v d p) :
    ∃ (cs : List Value) (x : (Sh.tup fs).El), v = .agg cs.toArray ∧ (Sh.tup fs).rep W (fun b => b < W.heap.size) x cs ∧ (∀ u ∈ cs, u.oneCell' = true) ∧ (Rows.uptoBulk d ≤ 1048576 → ((Sh.tup fs).enc x).length ≤ 1099511627776) := by
  obtain ⟨F, hF, hfit, hc⟩ := hf
  obtain ⟨ca, hva, _⟩ := okWide_struct hF hv
  obtain ⟨n, h⟩ := h
  obtain ⟨cs, hcs⟩ : ∃ cs, cs = ca.toList := ⟨_, rfl⟩
  have hca : ca = cs.toArray := by rw [hcs]
  rw [hva, show (Value.agg ca).cells = ca from rfl, ← hcs] at h
  obtain ⟨x, hr, hl⟩ := Sh.open_ (Sh.tup fs) t n cs (d, p) ⟨F, hF, hfit, hc⟩ hB h
  exact ⟨cs, x, by rw [hva, hca], hr, Sh.rep_one _ _ _ hr, fun hd => bulk_le hl hd⟩
theorem open_list {P : Program} {H : Type} {enc : TypeId × Value → H} {W : World} {base : Nat} {s : Sh} {t : TypeId} {v : Value} {d : DataW H} {p : List MemPlace} (hf : (Sh.list s).fits P t) (hB : Rows.uptoBulk d ≤ 1048576)
    (hv : Value.okWide P W .any base t v) (h : DataW.Trod enc P W 0 (fun _ => true) true t v d p) :
    ∃ (x : List s.El), (Sh.list s).rep W (fun b => b < W.heap.size) x [v] ∧ ((Sh.list s).enc x).length ≤ 1099511627776 := by
  obtain ⟨e, he, hfit, hc⟩ := hf
  obtain ⟨a1, len, cap, rfl⟩ := okWide_slice he hv
  obtain ⟨n, h⟩ := h
  obtain ⟨x, hr, hl⟩ := Sh.open_ (Sh.list s) t n _ (d, p) ⟨e, he, hfit, hc⟩ (.inr hB) h
  exact ⟨x, hr, bulk_le hl hB⟩
theorem wpList_load_blk_g {P : Program} {ops : Array Oper} {rest : List Oper} {op : Oper} {a : Act} {w : World} {Q : Exit → Act → World → Prop} (hgd : Region.wanted op (yielded ops a.tmps) = true) (ty : TypeId) (x : Operand) (ho : op.op = .load ty x) {X : Nat} {t : TypeId} {cs : List Value} (hb : Blk w X t cs.toArray) (hx : a.eval x = .pointer (some ⟨X, 0, none⟩)) {d : TypeDesc} (hu : P.underlying ty = some d) (hd : d.isRow = true)
    (hi : (P.info? ty).map (·.size) = some cs.length) (h : wpList P ops Q rest (a.put op.dst (.agg cs.toArray)) w) : wpList P ops Q (op :: rest) a w := by
  unfold wpList
  rw [if_pos hgd]
  exact .inl (wp_load_mid ty x ho X 0 hx cs _ hb.range hu hd hi h)
mutual
def Sh.zero : Sh → List Value
  | .num sg => [.int (nk sg) 0]
  | .dig => List.replicate 32 (.int .u8 0)
  | .byt => [.slice none 0 0]
  | .bool => [.bool false]
  | .list _ => [.slice none 0 0]
  | .tup fs => fs.zero
def Fs.zero : Fs → List Value
  | .nil => []
  | .cons s fs => s.zero ++ fs.zero
end
end
end Go.Proofs.YtkclkmjlodomkaaGreatDoor
