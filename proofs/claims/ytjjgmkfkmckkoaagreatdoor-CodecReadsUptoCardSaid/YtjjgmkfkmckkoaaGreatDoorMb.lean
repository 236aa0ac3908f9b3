/- Texts joined: BuildS CfE CfG CgI CtA CtB CrA CrB CdF CrC CtC CfI And CtD CtE CuS CfM CgJ CrE CtG Hoist2 Hoist3. -/
import Derived.Test.YtjjgmkfkmckkoaaGreatDoorMa
import Derived.Great.BuildSlice
import Derived.Laws.Tables
import Derived.Deep.QuietTactic
import Derived.BigQuiet
import Derived.Lib.EndianMore
import Derived.Laws.BitsAllLaws
import Derived.Deep.MidRow
namespace Go.Proofs.YtjjgmkfkmckkoaaGreatDoor
open List (setIfInBounds_toArray getElem_toArray getElem_cons_succ getElem_cons_zero set_cons_succ set_cons_zero filterMap_cons filterMap_nil getElem?_toArray getElem?_cons_succ getElem?_cons_zero)
section
open Go.RowKit
theorem bfold_put (off : Nat) : ∀ (l : List Value) (s : Nat) (acc : Array Value) (i : Nat), off + s + l.length ≤ acc.size →
    ((l.zipIdx s).foldl (fun (cs : Array Value) (x : Value × Nat) => cs.setIfInBounds (off + x.2) x.1) acc)[i]? = if off + s ≤ i ∧ i < off + s + l.length then l[i - (off + s)]? else acc[i]?
  | [], s, acc, i, _ => by
    simp only [List.length_nil]
    rw [if_neg (by omega)]
    rfl
  | v :: r, s, acc, i, h => by
    simp only [List.length_cons] at h
    rw [List.zipIdx_cons, List.foldl_cons, bfold_put off r (s + 1) _ i (by simp; omega)]
    by_cases h1 : off + s = i
    · subst h1
      rw [if_neg (by omega), if_pos (by simp)]
      simp [show off + s < acc.size by omega]
    · by_cases h2 : off + (s + 1) ≤ i ∧ i < off + (s + 1) + r.length
      · rw [if_pos h2, if_pos (by simp; omega)]
        rw [show i - (off + s) = (i - (off + (s + 1))) + 1 by omega]
        simp
      · rw [if_neg h2, if_neg (by simp; omega)]
        simp [h1]
theorem bfold_put_arr (off : Nat) (c acc : Array Value) (i : Nat) (h : off + c.size ≤ acc.size) :
    (c.zipIdx.foldl (fun cs (x : Value × Nat) => cs.setIfInBounds (off + x.2) x.1) acc)[i]? = if off ≤ i ∧ i < off + c.size then c[i - off]? else acc[i]? := by
  rw [← Array.foldl_toList, Array.toList_zipIdx]
  have := bfold_put off c.toList 0 acc i (by simpa using h)
  simpa using this
theorem bfill_one {place : Nat → Option (Nat × Nat)} {cells : Array Value} {i off size : Nat} {v : Value} {rest : List (Nat × Value)} (hp : place i = some (off, size)) (hs : v.cells.size = size) (hb : off + size ≤ cells.size) :
    Instr.fill place cells ((i, v) :: rest) = Instr.fill place (v.cells.zipIdx.foldl (fun cs (x : Value × Nat) => cs.setIfInBounds (off + x.2) x.1) cells) rest := by
  have hb' : ¬ cells.size < off + size := by omega
  rw [Instr.fill, hp]
  simp [hs, hb']
theorem cells_one {v : Value} (h : v.oneCell' = true) : v.cells = #[v] := by
  cases v <;> first | rfl | (simp [Value.oneCell'] at h)
def PlaceOk (place : Nat → Option (Nat × Nat)) : Nat → Nat → List (List Value) → Prop
  | _, _, [] => True
  | i, o, c :: l => place i = some (o, c.length) ∧ PlaceOk place (i + 1) (o + c.length) l
def Pieces : List Value → List (List Value) → Prop
  | [], [] => True
  | v :: vs, c :: cs => v.cells = c.toArray ∧ Pieces vs cs
  | _, _ => False
theorem fill_pieces {place : Nat → Option (Nat × Nat)} : ∀ (vs : List Value) (cs : List (List Value)) (i : Nat) (pre old : List Value), Pieces vs cs → PlaceOk place i pre.length cs → old.length = cs.flatten.length →
    Instr.fill place (pre ++ old).toArray ((vs.zipIdx i).map fun x => (x.2, x.1)) = some (pre ++ cs.flatten).toArray
  | [], [], i, pre, old, _, _, hl => by
    obtain rfl : old = [] := List.eq_nil_of_length_eq_zero (by simpa using hl)
    rfl
  | [], _ :: _, _, _, _, h, _, _ => by cases h
  | _ :: _, [], _, _, _, h, _, _ => by cases h
  | v :: vs, c :: cs, i, pre, old, ⟨hv, h⟩, ⟨hp, hpl⟩, hl => by
    rw [List.flatten_cons, List.length_append] at hl
    have hs : v.cells.size = c.length := by rw [hv, List.size_toArray]
    rw [List.zipIdx_cons, List.map_cons, bfill_one hp hs (by simp; omega)]
    have he : (v.cells.zipIdx.foldl (fun cs (x : Value × Nat) => cs.setIfInBounds (pre.length + x.2) x.1) (pre ++ old).toArray) = ((pre ++ c) ++ old.drop c.length).toArray := by
      apply Array.ext_getElem?
      intro j
      rw [bfold_put_arr pre.length v.cells _ j (by rw [hs]; simp; omega), hs, hv]
      by_cases h1 : pre.length ≤ j ∧ j < pre.length + c.length
      · rw [if_pos h1, getElem?_toArray, getElem?_toArray, List.append_assoc, List.getElem?_append_right h1.1, List.getElem?_append_left (by omega)]
      · rw [if_neg h1, getElem?_toArray, getElem?_toArray]
        rcases Nat.lt_or_ge j pre.length with h2 | h2
        · rw [List.getElem?_append_left h2, List.append_assoc, List.getElem?_append_left h2]
        · rw [List.getElem?_append_right h2, List.getElem?_append_right (by simp; omega), List.getElem?_drop]
          congr 1
          simp; omega
    rw [he]
    have := fill_pieces vs cs (i + 1) (pre ++ c) (old.drop c.length) h (by rw [List.length_append]; exact hpl) (by rw [List.length_drop]; omega)
    rw [this, List.flatten_cons, List.append_assoc]
theorem built_struct {P : Program} {t : TypeId} {n : Nat} {places : List (Nat × Nat)} (hi : (P.info? t).map (fun i => (i.zero.map (fun z => z.cells.size))) = some (some n))
    (hp : ((match P.underlying t with | some (.struct fields) => fields.toList.mapM (fun f => (P.info? f.type).map fun i => (f.offset, i.size)) | _ => none)) = some places)
    {vs : List Value} {cs : List (List Value)} (h : Pieces vs cs) (hpl : PlaceOk (fun i => places.toArray[i]?) 0 0 cs) (hn : cs.flatten.length = n) : P.built t ((vs.zipIdx 0).map fun x => (x.2, x.1)) = some cs.flatten.toArray := by
  unfold Program.built
  cases hit : P.info? t with
  | none => rw [hit] at hi; cases hi
  | some it =>
    rw [hit] at hi
    cases hz : it.zero with
    | none => rw [Option.map_some, hz] at hi; simp at hi
    | some z =>
      rw [Option.map_some, hz] at hi
      simp only [Option.map_some, Option.some.injEq] at hi
      cases hu : P.underlying t with
      | none => rw [hu] at hp; cases hp
      | some d =>
        rw [hu] at hp
        cases d <;> first | (cases hp; done) | skip
        rename_i fields
        simp only at hp ⊢
        rw [hp, hz]
        have := fill_pieces (place := fun i => places.toArray[i]?) vs cs 0 [] z.cells.toList h hpl (by rw [hn]; simpa using hi)
        simpa using this
theorem run_struct {P : Program} {t : TypeId} {n : Nat} {places : List (Nat × Nat)} (hi : (P.info? t).map (fun i => (i.zero.map (fun z => z.cells.size))) = some (some n))
    (hp : ((match P.underlying t with | some (.struct fields) => fields.toList.mapM (fun f => (P.info? f.type).map fun i => (f.offset, i.size)) | _ => none)) = some places)
    {vs : List Value} {cs : List (List Value)} (h : Pieces vs cs) (hpl : PlaceOk (fun i => places.toArray[i]?) 0 0 cs) (hn : cs.flatten.length = n) (parts : Array (Nat × Value)) (hparts : parts.toList = (vs.zipIdx 0).map fun x => (x.2, x.1)) (w : World) :
    (Instr.build t parts).run P w = .ok (.agg cs.flatten.toArray) w :=
  run_build w t parts _ (by rw [hparts]; exact built_struct hi hp h hpl hn)
theorem wpList_build_ {P : Program} {ops : Array Oper} {rest : List Oper} {o : Oper} {a : Act} {w : World} {Q : Exit → Act → World → Prop} (hg : o.guard = none) (ty : TypeId) (parts : Array (Nat × Operand)) (ho : o.op = .build ty parts)
    (ps : Array (Nat × Value)) (hp : (parts.map fun (i, x) => (i, a.eval x)) = ps) (v : Value) (hb : (Instr.build ty ps).run P w = .ok v w) (h : wpList P ops Q rest (a.put o.dst v) w) : wpList P ops Q (o :: rest) a w :=
  wpList_plain hg fun _ hK => by
    unfold Oper.wp execOp
    simp only [ho, hp, Sem.run_bind, hb, Sem.run_pure, Result.andThen_ok]
    exact hK _ _ h
theorem wpList_row1 {P : Program} {ops : Array Oper} {rest : List Oper} {o : Oper} {a : Act} {w : World} {Q : Exit → Act → World → Prop} (hg : o.guard = none) (t e : TypeId) (x : Operand) (ho : o.op = .buildSlice t 1 #[(0, x)]) (hu : P.underlying t = some (.slice e))
    (v : Value) (hx : a.eval x = v) (C : List Value) (hv : v.cells = C.toArray) (hi : (P.info? e).map (fun i => (i.zero.map (fun z => z.cells.size), i.size)) = some (some C.length, C.length)) (h0 : 0 < C.length) (hn : C.length ≤ 1000)
    (h : wpList P ops Q rest (a.put o.dst (.slice (some ⟨w.heap.size, 0, none⟩) 1 1)) (w.alloc (.cells C.toArray e))) : wpList P ops Q (o :: rest) a w := by
  cases hit : P.info? e with
  | none => rw [hit] at hi; cases hi
  | some i0 =>
    rw [hit] at hi
    cases hz : i0.zero with
    | none => rw [Option.map_some, hz] at hi; simp at hi
    | some z =>
      rw [Option.map_some, hz] at hi
      simp only [Option.map_some, Option.some.injEq, Prod.mk.injEq] at hi
      obtain ⟨hz1, hz2⟩ := hi
      refine wpList_buildSlice hg t e 1 _ ho C.toArray i0 z hu hit hz (by rw [hz2]; omega) (by rw [hz2]; omega) ?_ h
      have := fill_pieces (place := fun i => some (i * i0.size, i0.size)) [v] [C] 0 [] ((Array.range (1 * i0.size)).map (z.cells[· % z.cells.size]!)).toList ⟨hv, trivial⟩ ⟨by simp [hz2], trivial⟩ (by simp [hz2])
      rw [List.nil_append, Array.toArray_toList] at this
      have e1 : (#[(0, x)].map fun (i, x) => (i, a.eval x)).toList = ([v].zipIdx 0).map fun x => (x.2, x.1) := by simp [hx]
      rw [e1, this]
      simp
end
section
open Go.RowKit Go.Maps
theorem Took.one {s : Sh} {w : World} {X : Nat → Prop} {E g : Nat} {sent : Value} {b : List UInt8} {rest : List (List UInt8)} {bad : Bool} {e : Ending} {w' : World} (hs : ∀ y, s.val [y] = y) (h1 : s.cells = 1) (h : Took s w X E g sent b rest bad e w') :
    ∃ y bad', e = .returned y ∧ y.oneCell' = true ∧ Chg (fun k => k = g) w w' ∧ Pt w' X E g sent rest bad' ∧ SOut s w' (Nw w.heap.size w') b [y] bad bad' := by
  obtain ⟨cs, bad', rfl, hc, hp, ho⟩ := h
  obtain ⟨y, rfl⟩ : ∃ y, cs = [y] := by
    have := ho.1
    rw [h1] at this
    exact List.length_eq_one_iff.1 this
  exact ⟨y, bad', by rw [hs], ho.2.1 y (by simp), hc, hp, ho⟩
theorem Took.agg {s : Sh} {w : World} {X : Nat → Prop} {E g : Nat} {sent : Value} {b : List UInt8} {rest : List (List UInt8)} {bad : Bool} {e : Ending} {w' : World} (hs : ∀ c, s.val c = .agg c.toArray) (h : Took s w X E g sent b rest bad e w') :
    ∃ c bad', e = .returned (.agg c.toArray) ∧ (∀ v ∈ c, v.oneCell' = true) ∧ c.length = s.cells ∧ Chg (fun k => k = g) w w' ∧ Pt w' X E g sent rest bad' ∧ SOut s w' (Nw w.heap.size w') b c bad bad' := by
  obtain ⟨cs, bad', rfl, hc, hp, ho⟩ := h
  exact ⟨cs, bad', by rw [hs], ho.2.1, ho.1, hc, hp, ho⟩
theorem Pt.parts {w : World} {X : Nat → Prop} {E g : Nat} {sent : Value} {rows : List (List UInt8)} {bad : Bool} (h : Pt w X E g sent rows bad) : ∃ v e, Blk w g 168 #[v, e] ∧ Err w (fun b => E ≤ b) sent bad e := by
  obtain ⟨_, _, _, _, _, v, e, h1, _, h3⟩ := h
  exact ⟨v, e, h1, h3.to (fun b _ hlt => ⟨hlt, rfl⟩) fun b hb _ => hb.2⟩
theorem ReadOut.mk {fs : Fs} {w wN w' : World} {sent e : Value} {bs : List UInt8} {rows : List (List UInt8)} {C : List Value} {bad badN : Bool} {n : Nat} (hout : fs.Out wN (Nw (w.heap.size + 1) wN) rows C bad badN)
    (hs : (bad = false ∧ splitB bs = some rows) ∨ (bad = true ∧ ∀ l, splitB bs = some l → l.length ≠ n)) (hn : fs.len = n) (he : Err wN (fun b => w.heap.size + 1 ≤ b) sent badN e) (hb : Below w.heap.size w wN) (hc : Chg (fun b => b = w.heap.size) wN w') :
    ReadOut (.tup fs) w sent bs (.returned (.tuple #[.agg C.toArray, e])) w' := by
  have hk : ∀ b, w.heap.size + 1 ≤ b → b < wN.heap.size → b < w'.heap.size ∧ w'.heap[b]? = wN.heap[b]? := fun b hb hlt => ⟨ltle hlt hc.size, hc.block b hlt fun e => by omega⟩
  exact ⟨C, e, badN, rfl, hb.trans (hc.below hb.size fun b h => Nat.le_of_eq h.symm), he.to hk fun b hb _ => by omega, Fs.Out.tup (n := n) (hout.to (fun b hb hlt => hk b hb.1 hlt) fun b hb hlt => hb.to (by omega) (hk b hb.1 hlt).2) hs fun l x h => hn ▸ Fs.decs_len fs l x h⟩
end
section
open Go.RowKit Go.Maps
theorem ReadOut.one {s : Sh} {w : World} {sent : Value} {b : List UInt8} {e : Ending} {w' : World} (hs : ∀ y, s.val [y] = y) (h1 : s.cells = 1) (h : ReadOut s w sent b e w') :
    ∃ y err bad, e = .returned (.tuple #[y, err]) ∧ y.oneCell' = true ∧ Below w.heap.size w w' ∧ Err w' (fun b => w.heap.size ≤ b) sent bad err ∧ SOut s w' (Nw w.heap.size w') b [y] false bad := by
  obtain ⟨cs, err, bad, rfl, hb, he, ho⟩ := h
  obtain ⟨y, rfl⟩ : ∃ y, cs = [y] := by
    have := ho.1
    rw [h1] at this
    exact List.length_eq_one_iff.1 this
  exact ⟨y, err, bad, by rw [hs], ho.2.1 y (by simp), hb, he, ho⟩
theorem ReadOut.agg {s : Sh} {w : World} {sent : Value} {b : List UInt8} {e : Ending} {w' : World} (hs : ∀ c, s.val c = .agg c.toArray) (h : ReadOut s w sent b e w') :
    ∃ c err bad, e = .returned (.tuple #[.agg c.toArray, err]) ∧ (∀ v ∈ c, v.oneCell' = true) ∧ c.length = s.cells ∧ Below w.heap.size w w' ∧ Err w' (fun b => w.heap.size ≤ b) sent bad err ∧ SOut s w' (Nw w.heap.size w') b c false bad := by
  obtain ⟨cs, err, bad, rfl, hb, he, ho⟩ := h
  exact ⟨cs, err, bad, by rw [hs], ho.2.1, ho.1, hb, he, ho⟩
theorem SOut.or_ {s : Sh} {w : World} {S : Nat → Prop} {b : List UInt8} {cs : List Value} {bd : Bool} (h : SOut s w S b cs false bd) (bad : Bool) : SOut s w S b cs bad (bad || bd) := by
  obtain ⟨h1, h2, h3⟩ := h
  refine ⟨h1, h2, h3.imp (fun ⟨x, e1, e2, e3⟩ => ⟨x, e1, by rw [e2, Bool.or_false], e3⟩) fun ⟨e1, e2⟩ => ⟨e1, by rw [e2, Bool.or_true]⟩⟩
theorem Pt.single {w : World} {S : Nat → Prop} {sent : Value} {A : Option Addr} {cap : Nat} {bs : List UInt8} (h : Bs w S (.slice A bs.length cap) bs) (hg : Gl w sent) :
    Pt ((w.alloc (.cells #[.slice A bs.length cap] 22)).alloc (.cells #[.slice (some ⟨w.heap.size, 0, none⟩) 1 1, .nilIface] 168)) (fun b => b = w.heap.size + 1) w.heap.size (w.heap.size + 1) sent [bs] false := by
  have hb := (Below.refl w.heap.size w).alloc (Nat.le_refl _) (.cells #[.slice A bs.length cap] 22)
  have hb2 := hb.alloc (by simp) (.cells #[.slice (some ⟨w.heap.size, 0, none⟩) 1 1, .nilIface] 168)
  have hk := Blk.new (w.alloc (.cells #[.slice A bs.length cap] 22)) 168 #[.slice (some ⟨w.heap.size, 0, none⟩) 1 1, .nilIface]
  rw [show (w.alloc (.cells #[.slice A bs.length cap] 22)).heap.size = w.heap.size + 1 by simp] at hk
  have hlt := hg.lt
  have hr := Cs.of_new w 22 (size := 1) 1 (cs := [.slice A bs.length cap]) rfl (by simp only [maxLen]; decide)
  refine ⟨hg.below hb2, fun h => by omega, rfl, fun b h => by rw [h]; simp, by simp; omega, _, _, hk, ?_, .inl ⟨rfl, rfl⟩⟩
  refine ⟨[.slice A bs.length cap], (hr.sub (T := fun b => ¬ b = w.heap.size + 1) fun b hb _ => by omega).below ((Below.refl _ _).alloc (Nat.le_refl _) _), fun i x u h1 h2 => ?_⟩
  cases i with
  | zero =>
    simp only [getElem?_cons_zero, Option.some.injEq] at h1 h2
    subst h1 h2
    exact ⟨(h.below hb2).1.sub' h.1 fun b _ hlt => by omega, h.2⟩
  | succ i => simp at h1
theorem ReadOut.single {s : Sh} {w w1 : World} {sent y e9 : Value} {bs : List UInt8} {o1 o2 : Obj} {bad : Bool} {k : Nat} (hs : ∀ y, s.val [y] = y) (hc : Chg (fun k => k = w.heap.size + 1) ((w.alloc o1).alloc o2) w1)
    (he : Err w1 (fun b => w.heap.size ≤ b) sent bad e9) (ho : SOut s w1 (Nw ((w.alloc o1).alloc o2).heap.size w1) bs [y] false bad) : ReadOut s w sent bs (.returned (.tuple #[y, e9])) (w1.drewN k) := by
  have hb := ((Below.refl w.heap.size w).alloc (Nat.le_refl _) o1).alloc (by simp) o2
  refine ⟨[y], e9, bad, by rw [hs], below_drewN (hb.trans (hc.below hb.size fun b h => by omega)) k, he.to (fun b _ hlt => ⟨hlt, rfl⟩) fun b hb _ => hb, ho.nw (fun b _ hlt => ⟨hlt, rfl⟩) hb.size⟩
set_option maxRecDepth 100000 in
theorem readNum_any (w : World) {S : Nat → Prop} {v sent : Value} {bs : List UInt8} (h : Bs w S v bs) (_hlen : bs.length ≤ 262144) (hg : Gl w sent) :
    Calls Tryz.prog 76 #[v] w (ReadOut i64 w sent bs) := by
  obtain ⟨A, cap, rfl⟩ := h.form
  have H := Lib.hid (int_any _ (Pt.single h hg)); clear h hg
  go_enter Tryz.func76, Tryz.ntmps76
  go_wp2_with fail
  refine H.out.mono ?_
  rintro e w1 ht
  obtain ⟨y, bad, rfl, h1, hc, hp, ho⟩ := ht.one (fun _ => rfl) rfl
  obtain ⟨v9, e9, hblk, herr⟩ := hp.parts
  have hcc := hblk.cell
  have HO := Lib.hid ho
  have HE := Lib.hid herr
  clear ho herr hp H ht hblk
  go_wp2_with fail
  go_quiet (fail)
  go_wp2_with fail
  go_ret2
  exact ReadOut.single (fun _ => rfl) hc HE.out HO.out
end
section
open Go.RowKit
def Pk (w : World) (sent : Value) : Prop := Gl w sent ∧ ∃ (a b : Addr) (ca cb : Array Value) (ta tb : TypeId), sent = .iface 237 (.pointer (some a)) ∧ a ≠ b ∧ w.heap[a.block]? = some (.cells ca ta (0, 0)) ∧ w.heap[b.block]? = some (.cells cb tb (0, 0)) ∧
  w.cell? ⟨0, 0, none⟩ = some (.iface 237 (.pointer (some b))) ∧ w.cell? ⟨2, 0, none⟩ = some (.iface 222 (.agg #[.pointer (some ⟨nG, 156, none⟩)]))
theorem cell_low {w w' : World} {k : Nat} {v : Value} (h : w.cell? ⟨k, 0, none⟩ = some v) (hb : Below w.heap.size w w') : w'.cell? ⟨k, 0, none⟩ = some v := by
  have hlt : k < w.heap.size := by
    rcases Nat.lt_or_ge k w.heap.size with h1 | h1
    · exact h1
    · simp only [World.cell?] at h; rw [Array.getElem?_eq_none h1] at h; cases h
  exact (World.cell?_of_block (a := ⟨k, 0, none⟩) (hb.block k hlt)).trans h
theorem heap_low {w w' : World} {k : Nat} {o : Obj} (h : w.heap[k]? = some o) (hb : Below w.heap.size w w') : w'.heap[k]? = some o := by
  have hlt : k < w.heap.size := by
    rcases Nat.lt_or_ge k w.heap.size with h1 | h1
    · exact h1
    · rw [Array.getElem?_eq_none h1] at h; cases h
  exact (hb.block k hlt).trans h
theorem Pk.below {w w' : World} {sent : Value} (h : Pk w sent) (hb : Below w.heap.size w w') : Pk w' sent := by
  obtain ⟨h1, a, b, ca, cb, ta, tb, h2, h3, h4, h5, h6, h7⟩ := h
  exact ⟨h1.below hb, a, b, ca, cb, ta, tb, h2, h3, heap_low h4 hb, heap_low h5 hb, cell_low h6 hb, cell_low h7 hb⟩
def Wr (w : World) (sent : Value) (e : Value) (r : Bool) : Prop := ∃ (g n : Nat) (s : Value), e = .iface 154 (.pointer (some ⟨g, 0, none⟩)) ∧ Links w s e n ∧ (if r then w.cell? ⟨0, 0, none⟩ = some s else s = sent)
theorem Links.low {w w' : World} {s e : Value} {n : Nat} (h : Links w s e n) (hb : Below w.heap.size w w') : Links w' s e n := by
  induction h with
  | last => exact .last
  | more h1 _ ih => exact .more (h1.below hb h1.lt) ih
theorem Wr.low {w w' : World} {sent e : Value} {r : Bool} (h : Wr w sent e r) (hb : Below w.heap.size w w') : Wr w' sent e r := by
  obtain ⟨g, n, s, h1, h2, h3⟩ := h
  refine ⟨g, n, s, h1, h2.low hb, ?_⟩
  cases r
  · exact h3
  · exact cell_low h3 hb
theorem Wr.of_chain {w : World} {S : Nat → Prop} {sent e : Value} (h : Chain w S sent e) : Wr w sent e false := by
  obtain ⟨g, rfl⟩ := h.form
  obtain ⟨n, hl⟩ := Links.of_chain h
  exact ⟨g, n + 1, sent, rfl, hl, rfl⟩
theorem Wr.fresh {w : World} {sent v : Value} (h : w.cell? ⟨0, 0, none⟩ = some v) (what : Value) : Wr (w.alloc (.cells #[what, v] 158)) sent (.iface 154 (.pointer (some ⟨w.heap.size, 0, none⟩))) true :=
  ⟨w.heap.size, 1, v, rfl, .more (Blk.new w _ _) .last, cell_low h ((Below.refl _ w).alloc (Nat.le_refl _) _)⟩
set_option maxRecDepth 1000000 in
theorem told_any (w : World) {sent e : Value} {r : Bool} (hp : Pk w sent) (he : Wr w sent e r) :
    Calls Tryz.prog 72 #[e] w fun en w' => en = .returned (.int .i64 (if r then 4 else 5)) ∧ Below w.heap.size w w' := by
  have hal := (Below.refl w.heap.size w).alloc (Nat.le_refl _) (.cells #[.pointer none] 154)
  have hp0 := hp.below hal
  have he0 := he.low hal
  obtain ⟨hgl, a, b, ca, cb, ta, tb, hse, hab, ha, hb, hcb, hty⟩ := hp0
  obtain ⟨g, n, s, rfl, hl, hs⟩ := he0
  have hcb0 : w.cell? ⟨0, 0, none⟩ = some (.iface 237 (.pointer (some b))) := by
    obtain ⟨_, a', b', ca', cb', ta', tb', _, _, _, _, h6, _⟩ := hp
    have := cell_low h6 hal
    rw [hcb] at this
    injection this with this
    injection this with _ h1
    injection h1 with h1
    injection h1 with h1
    rw [h1]; exact h6
  have hlt0 : 0 < w.heap.size := by
    rcases Nat.lt_or_ge 0 w.heap.size with h1 | h1
    · exact h1
    · simp only [World.cell?] at hcb0; rw [Array.getElem?_eq_none h1] at hcb0; cases hcb0
  have HAL := Lib.hid hal
  have HTY := Lib.hid hty
  cases r
  · simp only [Bool.false_eq_true, if_false] at hs
    subst hs
    subst hse
    have HI := Lib.hid (is_any a b ca cb ta tb ha hb hl false (decide_eq_false hab).symm)
    clear hp he hgl ha hb hl hal hcb hty
    go_enter Tryz.func72, Tryz.ntmps72
    go_wp2_with fail
    refine HI.out.mono ?_
    rintro e w1 ⟨rfl, hw1⟩
    obtain rfl := hw1
    go_wp2_with fail
    refine (as_hit ⟨g, 0, none⟩ ⟨w.heap.size, 0, none⟩ (.pointer none) _ HTY.out (by simp) (by simp)).mono ?_
    rintro e w2 ⟨rfl, hw2⟩
    have hb2 : Below w.heap.size w w2 := by
      subst hw2
      exact (((((HAL.out.alloc HAL.out.size _).alloc (by simp; omega) _).alloc (by simp; omega) _).alloc (by simp; omega) _)).setCell (by simp) _
    clear hw2
    go_wp2_with fail
    go_ret
    exact ⟨rfl, hb2⟩
  · simp only [if_true] at hs
    rw [hcb] at hs
    injection hs with hs
    subst hs
    have HI := Lib.hid (is_any b b cb cb tb tb hb hb hl true (decide_eq_true rfl).symm)
    clear hp he hgl ha hb hl hal hcb hty
    go_enter Tryz.func72, Tryz.ntmps72
    go_wp2_with fail
    refine HI.out.mono ?_
    rintro e w1 ⟨rfl, hw1⟩
    obtain rfl := hw1
    go_wp2_with fail
    go_ret
    exact ⟨rfl, HAL.out⟩
theorem Effects.world {P : Program} {ops : Array Oper} {Q : Exit → Act → World → Prop} {S : World → Prop} {E T : List Oper} {a : Act} {F : World → Prop} (h : ∀ W, F W → Effects P ops Q S E T a W) {w : World} (hF : F w) : Effects P ops Q S E T a w := h w hF
def FaceOutN (s : Sh) (z : List Value) (w : World) (bs : List UInt8) (e : Ending) (w' : World) : Prop :=
  Below w.heap.size w w' ∧ ∃ (cs : List Value) (n : Int), e = .returned (.tuple #[.agg cs.toArray, .int .i64 n]) ∧ cs.length = s.cells ∧ (∀ v ∈ cs, v.oneCell' = true) ∧
    ((262144 < bs.length ∧ n = 4 ∧ cs = z) ∨ (bs.length ≤ 262144 ∧ ((∃ x, s.dec bs = some x ∧ n = 0 ∧ s.rep w' (Nw w.heap.size w') x cs) ∨ (s.dec bs = none ∧ n = 5 ∧ cs = z))))
def FaceOut (s : Sh) (w : World) (bs : List UInt8) (e : Ending) (w' : World) : Prop :=
  Below w.heap.size w w' ∧ ∃ (cs : List Value) (n : Int), e = .returned (.tuple #[.agg cs.toArray, .int .i64 n]) ∧ cs.length = s.cells ∧ (∀ v ∈ cs, v.oneCell' = true) ∧
    ((262144 < bs.length ∧ n = 4) ∨ (bs.length ≤ 262144 ∧ ((∃ x, s.dec bs = some x ∧ n = 0 ∧ s.rep w' (fun b => w.heap.size ≤ b) x cs) ∨ (s.dec bs = none ∧ n = 5))))
theorem FaceOutN.weak {s : Sh} {z : List Value} {w w' : World} {bs : List UInt8} {e : Ending} (h : FaceOutN s z w bs e w') : FaceOut s w bs e w' := by
  obtain ⟨h0, cs, n, h1, h2, h3, h4⟩ := h
  exact ⟨h0, cs, n, h1, h2, h3, h4.imp (fun ⟨q1, q2, _⟩ => ⟨q1, q2⟩) fun ⟨q1, q2⟩ => ⟨q1, q2.imp (fun ⟨x, e1, e2, e3⟩ => ⟨x, e1, e2, Sh.rep_to (fun _ _ hlt => ⟨hlt, rfl⟩) (fun _ hb _ => hb.1) _ _ _ e3⟩) fun ⟨q1, q2, _⟩ => ⟨q1, q2⟩⟩⟩
end
section
open Go.RowKit Go.Maps
theorem beFrom_take : ∀ (l : List UInt8) (acc k : Nat) (h : k < l.length), Lib.beFrom acc (l.take (k + 1)) = Lib.beFrom acc (l.take k) * 256 + (l[k]).toNat
  | [], _, _, h => by simp at h
  | b :: r, acc, 0, _ => by simp [Lib.beFrom]
  | b :: r, acc, k + 1, h => by
    have h' : k < r.length := by simpa using h
    rw [List.take_succ_cons, List.take_succ_cons, Lib.beFrom, Lib.beFrom, beFrom_take r _ k h']
    rfl
theorem or_step (n y : Nat) (hn : n < 72057594037927936) (hy : y < 256) : bits .or .u64 ((n : Int) * 256) (y : Int) = ((n * 256 + y : Nat) : Int) := by
  have h := u64_or_nat (n * 256) y (by omega) (by omega)
  have e : n * 256 ||| y = n * 256 + y := by
    have := Nat.shiftLeft_add_eq_or_of_lt (i := 8) (b := y) (by omega) n
    rw [Nat.shiftLeft_eq, show (2 : Nat) ^ 8 = 256 from rfl] at this
    omega
  rw [e] at h
  simpa using h
theorem wrapU' (n : Int) (h0 : 0 ≤ n) (h1 : n < 18446744073709551616) : IntKind.u64.wrap n = n := by rw [IntKind.wrap_u64]; omega
def TakeOut (w : World) (S : Nat → Prop) (bs : List UInt8) (e : Ending) (w' : World) : Prop :=
  Below w.heap.size w w' ∧ ((bs.length < 8 ∧ e = .returned (.tuple #[.int .u64 0, .slice none 0 0, .bool false])) ∨
    (8 ≤ bs.length ∧ ∃ A c, e = .returned (.tuple #[.int .u64 (Lib.beNat (bs.take 8)), .slice A (bs.length - 8) c, .bool true]) ∧ Cs w' S 1 (.slice A (bs.length - 8) c) (bs.length - 8) (u8s (bs.drop 8))))
set_option maxHeartbeats 2000000 in
set_option maxRecDepth 100000 in
theorem take_any (w : World) {S : Nat → Prop} {v : Value} {bs : List UInt8} (h : Cs w S 1 v bs.length (u8s bs)) (hlen : bs.length ≤ 1099511627776) :
    Calls Tryz.prog 81 #[v] w (TakeOut w S bs) := by
  obtain ⟨A, cap, rfl⟩ := h.form
  by_cases h8 : bs.length < 8
  · clear h
    go_enter Tryz.func81, Tryz.ntmps81
    go_wp2_with fail
    go_ret3
    exact ⟨Below.refl _ _, .inl ⟨h8, rfl⟩⟩
  · have h8' : 8 ≤ bs.length := by omega
    obtain ⟨A1, hsl, hcs⟩ := h.tail 8 (by omega) (by omega)
    rw [show ((8 : Nat) : Int) = 8 from rfl] at hsl
    rw [show (u8s bs).drop 8 = u8s (bs.drop 8) by simp [u8s, List.map_drop]] at hcs
    obtain ⟨_, A', c', e, _, _, hp⟩ := h
    injection e with e1 e2 e3
    subst e1 e3
    obtain ⟨B, off, rfl, _, _, hc⟩ := hp (by omega)
    have hby : ∀ k (hk : k < bs.length), w.cell? ⟨B, off + k, none⟩ = some (.int .u8 (bs[k].toNat)) := fun k hk => hc k _ (u8s_get bs k hk)
    have HBY := Lib.hid hby
    have HCS := Lib.hid hcs
    clear hc hp hby hcs
    go_enter Tryz.func81, Tryz.ntmps81
    go_wp2_with fail
    go_loopw [5, 6] (fun a i wr => ∃ k : Nat, k ≤ 8 ∧ i = .int .i64 k ∧ (∃ n : Nat, a = .int .u64 n ∧ Hid (n = Lib.beFrom 0 (bs.take k)) ∧ n < 256 ^ k) ∧ wr = w) (fun _ i _ => 8 - (intOf i).toNat)
    case atStart => exact ⟨0, by omega, rfl, ⟨0, rfl, Lib.hid rfl, by simp⟩, rfl⟩
    case round =>
      obtain ⟨k, hk, rfl, ⟨n, rfl, hn, hlt⟩, rfl⟩ := hrel
      by_cases h : k < 8
      · obtain ⟨y, hy⟩ : ∃ y, y = (bs[k]'(by omega)).toNat := ⟨_, rfl⟩
        have hc := HBY.out k (by omega)
        rw [← hy] at hc
        go_wp2_with fail
        have hp7 : (256 : Nat) ^ k ≤ 72057594037927936 := by
          have := Nat.pow_le_pow_right (n := 256) (by decide) (show k ≤ 7 by omega)
          rwa [show (256 : Nat) ^ 7 = 72057594037927936 by decide] at this
        have hyl : y < 256 := by rw [hy]; exact UInt8.toNat_lt _
        have e1 : IntKind.u64.wrap ((n : Int) * 256) = (n : Int) * 256 := wrapU' _ (by omega) (by omega)
        have e2 : IntKind.u64.wrap (bs[k].toNat : Int) = (y : Int) := by rw [← hy]; exact wrapU' _ (by omega) (by omega)
        refine ⟨⟨k + 1, by omega, by push_cast; rfl, ⟨n * 256 + y, ?_, Lib.hid ?_, ?_⟩, trivial⟩, by simp only [intOf]; omega⟩
        · rw [e1, e2, or_step n y (by omega) hyl]
        · rw [beFrom_take bs 0 k (by omega), ← hn.out, ← hy]
        · rw [Nat.pow_succ]; omega
      · have hk8 : k = 8 := by omega
        subst hk8
        have HN := Lib.hid (show (n : Nat) = Lib.beNat (bs.take 8) from hn.out)
        clear hn
        go_wp2_with fail
        go_quiet (fail)
        go_wp2_with fail
        go_ret3
        refine ⟨below_drewN (Below.refl _ _) _, .inr ⟨h8', A1, _, ?_, HCS.out.below (below_drewN (Below.refl _ _) _)⟩⟩
        rw [HN.out]
        rfl
set_option maxHeartbeats 2000000 in
set_option maxRecDepth 100000 in
theorem rnum_any (w : World) {S : Nat → Prop} {v : Value} {bs : List UInt8} (h : Bs w S v bs) :
    Calls Tryz.prog 46 #[v] w fun e w' => ((bs.length = 8 ∧ e = .returned (.tuple #[.int .u64 (Lib.beNat bs), .bool true])) ∨ (bs.length ≠ 8 ∧ e = .returned (.tuple #[.int .u64 0, .bool false]))) ∧ w' = w := by
  obtain ⟨A, cap, rfl⟩ := h.form
  by_cases h8 : bs.length = 8
  · obtain ⟨⟨_, A', c', e, _, _, hp⟩, _⟩ := h
    injection e with e1 e2 e3
    subst e1 e3
    obtain ⟨B, off, rfl, _, _, hc⟩ := hp (by omega)
    have hby : ∀ k (hk : k < bs.length), w.cell? ⟨B, off + k, none⟩ = some (.int .u8 (bs[k].toNat)) := fun k hk => hc k _ (u8s_get bs k hk)
    have HBY := Lib.hid hby
    obtain ⟨L, hL⟩ : ∃ L, L = bs.length := ⟨_, rfl⟩
    have HLL := Lib.hid hL
    rw [← hL] at h8 ⊢
    clear hc hp hby hL
    go_enter Tryz.func46, Tryz.ntmps46
    go_wp2_with fail
    go_loopw [4, 5] (fun a i wr => ∃ k : Nat, k ≤ 8 ∧ i = .int .i64 k ∧ (∃ n : Nat, a = .int .u64 n ∧ Hid (n = Lib.beFrom 0 (bs.take k)) ∧ n < 256 ^ k) ∧ wr = w) (fun _ i _ => 8 - (intOf i).toNat)
    case atStart => exact ⟨0, by omega, rfl, ⟨0, rfl, Lib.hid rfl, by simp⟩, rfl⟩
    case round =>
      obtain ⟨k, hk, rfl, ⟨n, rfl, hn, hlt⟩, rfl⟩ := hrel
      by_cases h : k < 8
      · have hkb : k < bs.length := by have := HLL.out; omega
        obtain ⟨y, hy⟩ : ∃ y, y = (bs[k]'hkb).toNat := ⟨_, rfl⟩
        have hc := HBY.out k hkb
        rw [← hy] at hc
        go_wp2_with fail
        have hp7 : (256 : Nat) ^ k ≤ 72057594037927936 := by
          have := Nat.pow_le_pow_right (n := 256) (by decide) (show k ≤ 7 by omega)
          rwa [show (256 : Nat) ^ 7 = 72057594037927936 by decide] at this
        have hyl : y < 256 := by rw [hy]; exact UInt8.toNat_lt _
        have e1 : IntKind.u64.wrap ((n : Int) * 256) = (n : Int) * 256 := wrapU' _ (by omega) (by omega)
        have e2 : IntKind.u64.wrap (bs[k].toNat : Int) = (y : Int) := by rw [← hy]; exact wrapU' _ (by omega) (by omega)
        refine ⟨⟨k + 1, by omega, by push_cast; rfl, ⟨n * 256 + y, ?_, Lib.hid ?_, ?_⟩, trivial⟩, by simp only [intOf]; omega⟩
        · rw [e1, e2, or_step n y (by omega) hyl]
        · rw [beFrom_take bs 0 k hkb, ← hn.out, ← hy]
        · rw [Nat.pow_succ]; omega
      · have hk8 : k = 8 := by omega
        subst hk8
        have HN := Lib.hid (show (n : Nat) = Lib.beNat bs from by rw [hn.out, List.take_of_length_le (by have := HLL.out; omega)]; rfl)
        clear hn
        go_wp2_with fail
        go_ret2
        refine ⟨.inl ⟨h8, ?_⟩, rfl⟩
        rw [HN.out]
        rfl
  · obtain ⟨L, hL⟩ : ∃ L, L = bs.length := ⟨_, rfl⟩
    rw [← hL] at h8 ⊢
    clear h hL
    have h8I : ¬ (L : Int) = 8 := by omega
    go_enter Tryz.func46, Tryz.ntmps46
    go_wp2_with fail
    go_loopw [4, 5] (fun a i wr => i = .int .i64 0 ∧ a = .int .u64 0 ∧ wr = w) (fun _ i _ => 0)
    case atStart => exact ⟨rfl, rfl, rfl⟩
    case round =>
      obtain ⟨rfl, rfl, rfl⟩ := hrel
      go_wp2_with fail
      go_ret2
      exact ⟨.inr ⟨h8, rfl⟩, rfl⟩
end
section
open Go.RowKit Go.Maps
attribute [-simp] Tryz.isAgg36 Tryz.typeInfo36 Tryz.sizeOf36
def z32 : List Value := [.int .u8 0, .int .u8 0, .int .u8 0, .int .u8 0, .int .u8 0, .int .u8 0, .int .u8 0, .int .u8 0, .int .u8 0, .int .u8 0, .int .u8 0, .int .u8 0, .int .u8 0, .int .u8 0, .int .u8 0, .int .u8 0, .int .u8 0, .int .u8 0, .int .u8 0, .int .u8 0, .int .u8 0, .int .u8 0, .int .u8 0, .int .u8 0, .int .u8 0, .int .u8 0, .int .u8 0, .int .u8 0, .int .u8 0, .int .u8 0, .int .u8 0, .int .u8 0]
theorem z32_one : ∀ v ∈ z32, v.oneCell' = true := by decide
theorem z32_size : (Tryz.prog.info? 36).map (·.size) = some z32.length := by kernel_rfl
theorem z32_get {j : Nat} (h : j < 32) : z32[j]? = some (.int .u8 0) := by
  have : z32 = List.replicate 32 (.int .u8 0) := rfl
  rw [this, List.getElem?_replicate, if_pos h]
theorem dig_size {C : List Value} (h : C.length = 32) : (Tryz.prog.info? 36).map (·.size) = some C.length := by rw [h]; kernel_rfl
def dmix (bs : List UInt8) (k : Nat) : List Value := (u8s bs).take k ++ z32.drop k
theorem dmix_len {bs : List UInt8} (h : bs.length = 32) {k : Nat} (hk : k ≤ 32) : (dmix bs k).length = 32 := by
  simp only [dmix, List.length_append, List.length_take, List.length_drop, u8s_length, h, show z32.length = 32 from rfl]; omega
theorem dmix_all {bs : List UInt8} (h : bs.length = 32) : dmix bs 32 = u8s bs := by
  rw [dmix, List.take_of_length_le (by rw [u8s_length]; omega), List.drop_of_length_le (by decide), List.append_nil]
theorem dmix_step {bs : List UInt8} (h : bs.length = 32) {k : Nat} (hk : k < 32) : (dmix bs k).toArray.setIfInBounds k (.int .u8 ((bs[k]'(by omega)).toNat : Int)) = (dmix bs (k + 1)).toArray := by
  have hu : k < (u8s bs).length := by rw [u8s_length]; omega
  have h1 : (u8s bs).take (k + 1) = (u8s bs).take k ++ [.int .u8 ((bs[k]'(by omega)).toNat : Int)] := by
    rw [List.take_succ_eq_append_getElem hu]
    congr 2
    have := u8s_get bs k (by omega)
    rw [List.getElem?_eq_getElem hu] at this
    exact Option.some.inj this
  have h2 : z32.drop k = .int .u8 0 :: z32.drop (k + 1) := by
    have hz : k < z32.length := hk
    rw [List.drop_eq_getElem_cons hz]
    congr 1
    have := z32_get hk
    rw [List.getElem?_eq_getElem hz] at this
    exact Option.some.inj this
  have h3 : ((u8s bs).take k).length = k := by rw [List.length_take]; omega
  rw [setIfInBounds_toArray]
  congr 1
  rw [dmix, dmix, h1, h2, List.set_append_right _ _ (by omega), h3, Nat.sub_self]
  simp
set_option maxHeartbeats 2000000 in
set_option maxRecDepth 100000 in
theorem rdig_any (w : World) {S : Nat → Prop} {v : Value} {bs : List UInt8} (h : Bs w S v bs) :
    Calls Tryz.prog 47 #[v] w fun e w' => ((bs.length = 32 ∧ e = .returned (.tuple #[.agg (u8s bs).toArray, .bool true])) ∨ (bs.length ≠ 32 ∧ e = .returned (.tuple #[.agg z32.toArray, .bool false]))) ∧ Below w.heap.size w w' := by
  obtain ⟨A, cap, rfl⟩ := h.form
  have hal1 := (Below.refl w.heap.size w).alloc (Nat.le_refl _) (.cells z32.toArray 36)
  have hal2 := hal1.alloc (by simp) (.cells z32.toArray 36)
  have hx := (Blk.new w 36 z32.toArray).alloc (.cells z32.toArray 36)
  have hy := Blk.new (w.alloc (.cells z32.toArray 36)) 36 z32.toArray
  rw [show (w.alloc (.cells z32.toArray 36)).heap.size = w.heap.size + 1 by simp] at hy
  have HX := Lib.hid hx
  have HY := Lib.hid hy
  have HAL := Lib.hid hal2
  have HB := Lib.hid ((h.sub (T := fun b => b < w.heap.size) fun _ _ hlt => hlt).below hal2)
  clear hx hy hal1 hal2 h
  obtain ⟨L, hL⟩ : ∃ L, L = bs.length := ⟨_, rfl⟩
  have HLL := Lib.hid hL
  rw [← hL]
  clear hL
  go_enter Tryz.func47, Tryz.ntmps47
  go_wp2_with (refine wpList_store_blk (cs0 := z32) (cs := z32) rfl 36 _ _ rfl HY.out rfl rfl rfl z32_size z32_one ?_; intro w3 hb3 hc3; have HB3 := Lib.hid hb3; have HC3 := Lib.hid hc3; clear hb3 hc3)
  have hz3 := HC3.out.size
  have HX3 := Lib.hid (HX.out.chg HC3.out fun h => by have h : w.heap.size = w.heap.size + 1 := h; omega)
  have HR3 := Lib.hid (HB.out.chg HC3.out fun b hb h => by have h : b = w.heap.size + 1 := h; omega)
  have HB03 := Lib.hid (HAL.out.trans (HC3.out.below HAL.out.size fun b h => by have h : b = w.heap.size + 1 := h; omega))
  clear HX HY HAL HB HC3 hz3
  by_cases h8 : L = 32
  · subst h8
    have hrr := HR3.out
    obtain ⟨⟨_, A', c', e, _, _, hp⟩, _⟩ := hrr
    rw [← HLL.out] at e
    injection e with e1 e2 e3
    subst e1 e3
    obtain ⟨B, off, rfl, hBw, hBl, hc⟩ := hp (by rw [← HLL.out]; omega)
    have HBY := Lib.hid (show ∀ k (hk : k < bs.length), w3.cell? ⟨B, off + k, none⟩ = some (.int .u8 (bs[k].toNat)) from fun k hk => hc k _ (u8s_get bs k hk))
    clear hp hc
    go_loopw [5] (fun i wr => ∃ k : Nat, k ≤ 32 ∧ i = .int .i64 k ∧ Hid (Blk wr (w.heap.size + 1) 36 (dmix bs k).toArray) ∧ Chg (fun b => b = w.heap.size + 1) w3 wr) (fun i _ => 32 - (intOf i).toNat)
    case atStart => exact ⟨0, by omega, rfl, HB3, Chg.refl _ _⟩
    case round =>
      obtain ⟨k, hk, rfl, hD, hch⟩ := hrel
      by_cases hlt : k < 32
      · have hkb : k < bs.length := by have := HLL.out; omega
        obtain ⟨y, hy⟩ : ∃ y, y = (bs[k]'hkb).toNat := ⟨_, rfl⟩
        have hc : wr.cell? ⟨B, off + k, none⟩ = some (.int .u8 y) := by
          rw [hy]
          exact (World.cell?_of_block (a := ⟨B, off + k, none⟩) (hch.block B hBl (fun e => by have e : B = w.heap.size + 1 := e; omega))).trans (HBY.out k hkb)
        have hdl : k < (dmix bs k).length := by rw [dmix_len HLL.out.symm hk]; exact hlt
        have hc2 : wr.cell? ⟨w.heap.size + 1, k, none⟩ = some ((dmix bs k)[k]'hdl) := by rw [hD.out.cell]; simp [hdl]
        obtain ⟨u, hu⟩ : ∃ u, u = (dmix bs k)[k]'hdl := ⟨_, rfl⟩
        rw [← hu] at hc2
        have hz := hD.out.frozen k
        have HDS := Lib.hid (show Blk (wr.setCell ⟨w.heap.size + 1, k, none⟩ (.int .u8 (y : Int))) (w.heap.size + 1) 36 (dmix bs (k + 1)).toArray from by
          have h1 := hD.out.set_ k (.int .u8 (y : Int))
          rw [hy, dmix_step HLL.out.symm hlt] at h1
          rw [hy]; exact h1)
        clear hu
        go_wp2_with fail
        refine ⟨⟨k + 1, by omega, by push_cast; rfl, Lib.hid ?_, hch.setIn _ _⟩, by simp only [intOf]; omega⟩
        rw [← hy]
        exact HDS.out
      · have hk8 : k = 32 := by omega
        subst hk8
        have HD := Lib.hid (show Blk wr (w.heap.size + 1) 36 (u8s bs).toArray from by have := hD.out; rwa [dmix_all HLL.out.symm] at this)
        have hl : (u8s bs).length = 32 := by rw [u8s_length]; exact HLL.out.symm
        have HLU := Lib.hid (show z32.length = (u8s bs).length from by rw [hl]; rfl)
        have HI := Lib.hid (dig_size hl)
        have HXR := Lib.hid (HX3.out.chg hch fun h => by have h : w.heap.size = w.heap.size + 1 := h; omega)
        have HBR := Lib.hid (HB03.out.trans (hch.below HB03.out.size fun b h => by have h : b = w.heap.size + 1 := h; omega))
        clear hD hl hch
        go_wp2_with (first
          | (refine wpList_load_blk' rfl 36 _ rfl HD.out rfl Tryz.underlying36 rfl HI.out ?_)
          | (refine wpList_store_blk (cs0 := z32) (cs := u8s bs) rfl 36 _ _ rfl HXR.out rfl rfl HLU.out HI.out (u8s_one _) ?_; intro w9 hb9 hc9; have HB9 := Lib.hid hb9; have HC9 := Lib.hid hc9; clear hb9 hc9))
        have hld := run_loadVar_mid (P := Tryz.prog) w9 w.heap.size 0 36 (u8s bs) _ HB9.out.range Tryz.underlying36 rfl HI.out
        exact bodyPost_ret (v := .tuple #[.agg (u8s bs).toArray, .bool true]) (by simp [results, Tryz.results47, asAddr, hld]) rfl ⟨by simp, HBR.out.trans (HC9.out.below HBR.out.size fun b h => Nat.le_of_eq h.symm)⟩
  · have h8I : ¬ (L : Int) = 32 := by omega
    go_loopw [5] (fun i wr => i = .int .i64 0 ∧ wr = w3) (fun i _ => 0)
    case atStart => exact ⟨rfl, rfl⟩
    case round =>
      obtain ⟨rfl, rfl⟩ := hrel
      go_wp2_with (first
        | (refine wpList_load_blk' rfl 36 _ rfl HB3.out rfl Tryz.underlying36 rfl z32_size ?_)
        | (refine wpList_store_blk (cs0 := z32) (cs := z32) rfl 36 _ _ rfl HX3.out rfl rfl rfl z32_size z32_one ?_; intro w9 hb9 hc9; have HB9 := Lib.hid hb9; have HC9 := Lib.hid hc9; clear hb9 hc9))
      have hld := run_loadVar_mid (P := Tryz.prog) w9 w.heap.size 0 36 z32 _ HB9.out.range Tryz.underlying36 rfl z32_size
      exact bodyPost_ret (v := .tuple #[.agg z32.toArray, .bool false]) (by simp [results, Tryz.results47, asAddr, hld]) rfl ⟨.inr ⟨h8, rfl⟩, HB03.out.trans (HC9.out.below HB03.out.size fun b h => Nat.le_of_eq h.symm)⟩
end
section
open Go.RowKit Go.Maps
theorem leBytes_get' : ∀ (k v i : Nat), i < k → (Lib.leBytes k v)[i]? = some ((v / 256 ^ i) % 256).toUInt8
  | 0, _, _, h => by omega
  | k + 1, v, 0, _ => by simp [Lib.leBytes]
  | k + 1, v, i + 1, h => by
    rw [Lib.leBytes, getElem?_cons_succ, leBytes_get' k (v / 256) i (by omega), Nat.div_div_eq_div_mul, Nat.pow_succ, Nat.mul_comm 256]
theorem be8_get (v i : Nat) (h : i < 8) : (be8 v)[i]? = some ((v / 2 ^ (56 - 8 * i)) % 256).toUInt8 := by
  rw [be8, Lib.beBytes, List.getElem?_reverse (by rw [Lib.leBytes_length]; omega), Lib.leBytes_length, leBytes_get' 8 v _ (by omega), show (256 : Nat) = 2 ^ 8 from rfl, ← Nat.pow_mul, show 8 * (8 - 1 - i) = 56 - 8 * i by omega]
theorem be8_byte (v i : Nat) (h : i < 8) : (((v / 2 ^ (56 - 8 * i)) % 256 : Nat) : Int) = (((be8 v)[i]'(by rw [be8_length]; exact h)).toNat : Int) := by
  have := be8_get v i h
  rw [List.getElem?_eq_getElem (by rw [be8_length]; exact h)] at this
  injection this with e
  rw [e, Nat.toUInt8, UInt8.toNat_ofNat']
  generalize v / 2 ^ (56 - 8 * i) = q
  congr 1
  omega
set_option maxHeartbeats 1000000 in
set_option maxRecDepth 100000 in
theorem rNum_any (w : World) (v : Nat) (_hv : v < 18446744073709551616) : Calls Tryz.prog 49 #[.int .u64 v] w fun e w' => ∃ v', e = .returned v' ∧ Fresh w w' v' (be8 v) := by
  have hby : ∀ k, k < 8 → ((v : Int) / 2 ^ (56 - 8 * k)) % 256 = (((be8 v).getD k 0).toNat : Int) := fun k hk => by
    have := be8_byte v k hk
    rw [List.getD_eq_getElem?_getD, List.getElem?_eq_getElem (by rw [be8_length]; exact hk), Option.getD_some, ← this]
    push_cast; rfl
  have hL : (be8 v).length = 8 := be8_length v
  obtain ⟨L, hLe⟩ : ∃ L, L = be8 v := ⟨_, rfl⟩
  rw [← hLe] at hby hL ⊢
  have HBY := Lib.hid hby
  have HL := Lib.hid hL
  clear hby hL hLe
  go_enter Tryz.func49, Tryz.ntmps49
  go_wp2_with fail
  go_loopw [3, 4] (fun o i wr => ∃ k : Nat, k ≤ 8 ∧ i = .int .i64 k ∧ Own wr 5 1 o k (u8s (L.take k)) ∧ (∀ b, o.ownBlock = some b → w.heap.size ≤ b) ∧ Below w.heap.size w wr) (fun _ i _ => 8 - (intOf i).toNat)
  case atStart =>
    have hal := (Below.refl w.heap.size w).alloc (Nat.le_refl _) (.cells #[] 5)
    exact ⟨0, by omega, rfl, Own.empty w 5 1, fun b hb => by simp [Value.ownBlock] at hb; omega, hal⟩
  case round =>
    obtain ⟨k, hk, rfl, ho, hob, hbl⟩ := hrel
    obtain ⟨Ao, co, rfl⟩ := ho.form
    have HO := Lib.hid ho
    have HOB := Lib.hid hob
    have HBL := Lib.hid hbl
    clear ho hob
    by_cases hlt : k < 8
    · have hbk := HBY.out k hlt
      obtain ⟨x, hx⟩ : ∃ x, x = L.getD k 0 := ⟨_, rfl⟩
      rw [← hx] at hbk
      have htk : L.take (k + 1) = L.take k ++ [x] := by
        rw [List.take_succ_eq_append_getElem (by rw [HL.out]; exact hlt), hx, List.getD_eq_getElem?_getD, List.getElem?_eq_getElem (by rw [HL.out]; exact hlt), Option.getD_some]
      have HTK := Lib.hid htk
      have hal := (Below.refl wr.heap.size wr).alloc (Nat.le_refl _) (.cells #[.int .u8 x.toNat] 5)
      have HAL := Lib.hid hal
      have HO2 := Lib.hid (show Own (wr.alloc (.cells #[.int .u8 x.toNat] 5)) 5 1 (.slice Ao k co) k (u8s (L.take k)) from own_keep HO.out fun b hb => hal.block b (own_lt HO.out hb))
      have HS2 := Lib.hid (Cs.of_new wr 5 (size := 1) 1 (cs := [.int .u8 x.toNat]) rfl (by simp only [maxLen]; decide))
      clear hx htk hal
      go_wp2_with (at_builtin; refine wpList_app _ rfl _ _ _ rfl Tryz.underlying22 info_u8 rfl (by decide) HO2.out rfl HS2.out rfl (by simp [Value.oneCell']) (by simp only [maxLen]; omega) (by omega) ?_; intro v6 w6 ho6 hc6 hnil6 hat6; clear hnil6; have HO6 := Lib.hid ho6; clear ho6; have HC6 := Lib.hid hc6; clear hc6; have HAT6 := Lib.hid hat6; clear hat6)
      have hsz := HBL.out.size
      have hsa := HAL.out.size
      refine ⟨⟨k + 1, by omega, by push_cast; rfl, by rw [HTK.out]; simpa [u8s] using HO6.out, fun b hb => ?_, (HBL.out.trans (HAL.out.mono hsz)).trans (HC6.out.below (by omega) fun b h => HOB.out b h)⟩, by simp only [intOf]; omega⟩
      rcases HAT6.out with h | h
      · exact HOB.out b (h ▸ hb)
      · rw [h] at hb; injection hb with hb; omega
    · have hk' : k = 8 := by omega
      subst hk'
      go_wp2_with fail
      go_ret
      have h1 := HO.out
      rw [show L.take 8 = L from List.take_of_length_le (by rw [HL.out]; omega)] at h1
      exact ⟨_, rfl, Fresh.of_own (by rw [HL.out]; exact h1) HBL.out HOB.out (by rw [HL.out]; omega)⟩
set_option maxHeartbeats 1000000 in
set_option maxRecDepth 100000 in
theorem rnumber_any (w : World) (v : Nat) (_hv : v < 18446744073709551616) : Calls Tryz.prog 82 #[.int .u64 v, .int .i64 8] w fun e w' => ∃ v', e = .returned v' ∧ Own w' 5 1 v' 8 (u8s (be8 v)) ∧ (∀ b, v'.ownBlock = some b → w.heap.size ≤ b) ∧ Below w.heap.size w w' := by
  have hby : ∀ k, k < 8 → ((v : Int) / 2 ^ (8 * (7 - k))) % 256 = (((be8 v).getD k 0).toNat : Int) := fun k hk => by
    rw [show 8 * (7 - k) = 56 - 8 * k by omega]
    have := be8_byte v k hk
    rw [List.getD_eq_getElem?_getD, List.getElem?_eq_getElem (by rw [be8_length]; exact hk), Option.getD_some, ← this]
    push_cast; rfl
  have hL : (be8 v).length = 8 := be8_length v
  obtain ⟨L, hLe⟩ : ∃ L, L = be8 v := ⟨_, rfl⟩
  rw [← hLe] at hby hL ⊢
  have HBY := Lib.hid hby
  have HL := Lib.hid hL
  clear hby hL hLe
  go_enter Tryz.func82, Tryz.ntmps82
  go_wp2_with fail
  go_loopw [5, 6] (fun o i wr => ∃ k : Nat, k ≤ 8 ∧ i = .int .i64 (7 - (k : Int)) ∧ Own wr 5 1 o k (u8s (L.take k)) ∧ (∀ b, o.ownBlock = some b → w.heap.size ≤ b) ∧ Below w.heap.size w wr) (fun _ i _ => (intOf i + 1).toNat)
  case atStart =>
    have hal := (Below.refl w.heap.size w).alloc (Nat.le_refl _) (.cells #[] 5)
    exact ⟨0, by omega, rfl, Own.empty w 5 1, fun b hb => by simp [Value.ownBlock] at hb; omega, hal⟩
  case round =>
    obtain ⟨k, hk, rfl, ho, hob, hbl⟩ := hrel
    obtain ⟨Ao, co, rfl⟩ := ho.form
    have HO := Lib.hid ho
    have HOB := Lib.hid hob
    have HBL := Lib.hid hbl
    clear ho hob
    by_cases hlt : k < 8
    · have hbk := HBY.out k hlt
      obtain ⟨x, hx⟩ : ∃ x, x = L.getD k 0 := ⟨_, rfl⟩
      rw [← hx] at hbk
      have htk : L.take (k + 1) = L.take k ++ [x] := by
        rw [List.take_succ_eq_append_getElem (by rw [HL.out]; exact hlt), hx, List.getD_eq_getElem?_getD, List.getElem?_eq_getElem (by rw [HL.out]; exact hlt), Option.getD_some]
      have HTK := Lib.hid htk
      have hal := (Below.refl wr.heap.size wr).alloc (Nat.le_refl _) (.cells #[.int .u8 x.toNat] 5)
      have HAL := Lib.hid hal
      have HO2 := Lib.hid (show Own (wr.alloc (.cells #[.int .u8 x.toNat] 5)) 5 1 (.slice Ao k co) k (u8s (L.take k)) from own_keep HO.out fun b hb => hal.block b (own_lt HO.out hb))
      have HS2 := Lib.hid (Cs.of_new wr 5 (size := 1) 1 (cs := [.int .u8 x.toNat]) rfl (by simp only [maxLen]; decide))
      clear hx htk hal
      go_wp2_with (at_builtin; refine wpList_app _ rfl _ _ _ rfl Tryz.underlying22 info_u8 rfl (by decide) HO2.out rfl HS2.out rfl (by simp [Value.oneCell']) (by simp only [maxLen]; omega) (by omega) ?_; intro v6 w6 ho6 hc6 hnil6 hat6; clear hnil6; have HO6 := Lib.hid ho6; clear ho6; have HC6 := Lib.hid hc6; clear hc6; have HAT6 := Lib.hid hat6; clear hat6)
      have hsz := HBL.out.size
      have hsa := HAL.out.size
      refine ⟨⟨k + 1, by omega, by congr 1; push_cast; omega, by rw [HTK.out]; simpa [u8s] using HO6.out, fun b hb => ?_, (HBL.out.trans (HAL.out.mono hsz)).trans (HC6.out.below (by omega) fun b h => HOB.out b h)⟩, by simp only [intOf]; omega⟩
      rcases HAT6.out with h | h
      · exact HOB.out b (h ▸ hb)
      · rw [h] at hb; injection hb with hb; omega
    · have hk' : k = 8 := by omega
      subst hk'
      go_wp2_with fail
      go_ret
      have h1 := HO.out
      rw [show L.take 8 = L from List.take_of_length_le (by rw [HL.out]; omega)] at h1
      exact ⟨_, rfl, h1, HOB.out, HBL.out⟩
end
section
open Go.RowKit Go.Maps
set_option maxHeartbeats 2000000 in
set_option maxRecDepth 100000 in
theorem rJoin_any (w : World) {S : Nat → Prop} {v : Value} {rows : List (List UInt8)} (h : Bsr w S v rows) (hl : (joinB rows).length ≤ 140737488355328) (hS : ∀ b, S b → b < w.heap.size) :
    Calls Tryz.prog 48 #[v] w fun e w' => ∃ v', e = .returned v' ∧ Fresh w w' v' (joinB rows) := by
  obtain ⟨A, cap, rfl⟩ := h.form
  have H := Lib.hid h; clear h
  have hc := joinP_count rows
  rw [joinB_length] at hl
  have HA := Lib.hid (rnumber_any w rows.length (by omega))
  have hw := u64_wrap_nat rows.length (by omega)
  go_enter Tryz.func48, Tryz.ntmps48
  go_wp2_with fail
  refine HA.out.mono ?_
  rintro e w1 ⟨v1, rfl, ho, hv, hb1⟩
  obtain ⟨B0, hB0⟩ : ∃ B0, B0 = be8 rows.length := ⟨_, rfl⟩
  have ho : Own w1 5 1 v1 (B0 ++ joinP (rows.take 0)).length (u8s (B0 ++ joinP (rows.take 0))) := by
    rw [List.take_zero, show joinP [] = [] from rfl, List.append_nil, hB0, be8_length]; exact ho
  have hB8 : B0.length = 8 := by rw [hB0, be8_length]
  have HB8 := Lib.hid hB8
  have HB0 := Lib.hid hB0
  clear hB8 hB0 hw HA
  go_wp2_with fail
  go_loopw [3, 4] (fun o i wr => ∃ k : Nat, k ≤ rows.length ∧ i = .int .i64 k ∧ Own wr 5 1 o (B0 ++ joinP (rows.take k)).length (u8s (B0 ++ joinP (rows.take k))) ∧ (∀ b, o.ownBlock = some b → w.heap.size ≤ b) ∧ Below w.heap.size w wr) (fun _ i _ => rows.length - (intOf i).toNat)
  case atStart => exact ⟨0, Nat.zero_le _, rfl, ho, hv, hb1⟩
  case round =>
    obtain ⟨k, hk, rfl, ho, hv, hbl⟩ := hrel
    by_cases hlt : k < rows.length
    · obtain ⟨ba, oa, ua, rfl, hca, hua, hblt, hSb⟩ := (H.out.below hbl).at_ hlt
      have hT := joinP_take_le rows k
      have hT1 := joinP_take_le rows (k + 1)
      have hts := joinP_take_succ rows k hlt
      obtain ⟨x, hx⟩ : ∃ x, x = rows[k] := ⟨_, rfl⟩
      rw [← hx] at hua hts
      have hlen : (joinP (rows.take (k + 1))).length = (joinP (rows.take k)).length + 8 + x.length := by rw [hts, List.length_append, List.length_append, be8_length]
      obtain ⟨J, hJ⟩ : ∃ J, J = joinP (rows.take k) := ⟨_, rfl⟩
      rw [← hJ] at ho hT hts hlen
      obtain ⟨J', hJ'⟩ : ∃ J', J' = joinP (rows.take (k + 1)) := ⟨_, rfl⟩
      rw [← hJ'] at hT1 hts hlen
      have hB8 := HB8.out
      have hx2 := hua.2
      obtain ⟨Ax, cx, rfl⟩ := hua.form
      have HNUM := Lib.hid (rnumber_any wr x.length (by omega))
      have HUA := Lib.hid hua
      have HV := Lib.hid hv
      have HTS := Lib.hid hts
      have hw := u64_wrap_nat x.length (by omega)
      obtain ⟨m, hm⟩ : ∃ m, m = (B0 ++ J).length := ⟨_, rfl⟩
      have hml : m + 8 + x.length ≤ 140737488355328 := by rw [hm, List.length_append]; omega
      have HML := Lib.hid hml
      have HM := Lib.hid hm
      rw [← hm] at ho
      obtain ⟨Ao, co, rfl⟩ := ho.form
      have HO := Lib.hid ho
      have HCA := Lib.hid hca
      clear hua hv hts hx hJ hlen hT hT1 hx2 hB8 ho hm
      go_wp2_with fail
      refine HNUM.out.mono ?_
      rintro e w2 ⟨v2, rfl, ho2, hv2, hb2⟩
      have HO2 := Lib.hid (show Own w2 5 1 (.slice Ao m co) m (u8s (B0 ++ J)) from own_keep HO.out fun b hb => hb2.block b (own_lt HO.out hb))
      have HS2 := Lib.hid (show Cs w2 (fun b => wr.heap.size ≤ b) 1 v2 8 (u8s (be8 x.length)) from Cs.of_own ho2 hv2)
      obtain ⟨A2, c2, rfl⟩ := ho2.form
      have HUA2 := Lib.hid (HUA.out.below hb2)
      have hca2 : w2.cell? ⟨ba, oa + k, none⟩ = some (.slice Ax x.length cx) := (World.cell?_of_block (a := ⟨ba, oa + k, none⟩) (hb2.block ba hblt)).trans hca
      have HCA2 := Lib.hid hca2
      clear hw ho2 hca2 hca
      have hsb := hbl.size
      have hs2 := hb2.size
      go_wp2_with (first
        | (at_builtin; refine wpList_app _ rfl _ _ _ rfl Tryz.underlying22 info_u8 rfl (by decide) HO2.out rfl HS2.out rfl (u8s_one _) (by have := HML.out; simp only [maxLen]; omega) (by have := HML.out; omega) ?_; intro v3 w3 ho3 hg3 hnil3 hat3; clear hnil3
           obtain ⟨A3, c3, rfl⟩ := ho3.form
           have HO3 := Lib.hid ho3; clear ho3; have HG3 := Lib.hid hg3; clear hg3; have HAT3 := Lib.hid hat3; clear hat3
           have hca3 : w3.cell? ⟨ba, oa + k, none⟩ = some (.slice Ax x.length cx) := (World.cell?_of_block (a := ⟨ba, oa + k, none⟩) (HG3.out.block ba (ltle hblt hs2) fun h => by have h1 := HV.out ba h; have h2 := hS ba hSb; omega)).trans HCA2.out
           have HUA3 := Lib.hid (HUA2.out.chg HG3.out fun b hb h => by have h1 := HV.out b h; have h2 := hS b hb; omega))
        | (at_builtin; refine wpList_app _ rfl _ _ _ rfl Tryz.underlying22 info_u8 rfl (by decide) HO3.out rfl HUA3.out.1 rfl (u8s_one _) (by have := HML.out; simp only [maxLen]; omega) (by have := HML.out; omega) ?_; intro v4 w4 ho4 hg4 hnil4 hat4; clear hnil4
           have HO4 := Lib.hid ho4; clear ho4; have HG4 := Lib.hid hg4; clear hg4; have HAT4 := Lib.hid hat4; clear hat4))
      have hv3 : ∀ b, (Value.slice A3 (m + 8) c3).ownBlock = some b → w.heap.size ≤ b := fun b hb => HAT3.out.elim (fun h => HV.out b (h ▸ hb)) fun h => by rw [h] at hb; injection hb with hb; omega
      have hs3 := HG3.out.size
      have hv4 : ∀ b, v4.ownBlock = some b → w.heap.size ≤ b := fun b hb => HAT4.out.elim (fun h => hv3 b (h ▸ hb)) fun h => by rw [h] at hb; injection hb with hb; omega
      have hbl3 : Below w.heap.size w w3 := (hbl.trans (hb2.mono hsb)).trans (HG3.out.below (by omega) fun b h => HV.out b h)
      refine ⟨⟨k + 1, by omega, by push_cast; rfl, ?_, hv4, hbl3.trans (HG4.out.below hbl3.size fun b h => hv3 b h)⟩, by simp only [intOf]; omega⟩
      have h1 := HO4.out
      have h2 : u8s (B0 ++ J) ++ u8s (be8 x.length) ++ u8s x = u8s (B0 ++ J') := by rw [HTS.out]; simp [u8s]
      have h3 : m + 8 + x.length = (B0 ++ J').length := by rw [HTS.out, HM.out]; simp [be8_length]; omega
      rw [h2, h3] at h1
      exact hJ' ▸ h1
    · have hk' : k = rows.length := by omega
      subst hk'
      rw [List.take_length] at ho
      have HO := Lib.hid ho
      have HV := Lib.hid hv
      clear ho hv
      go_wp2_with fail
      go_ret
      have h1 := HO.out
      have h2 : B0 ++ joinP rows = joinB rows := by rw [HB0.out]; rfl
      rw [h2] at h1
      exact ⟨_, rfl, Fresh.of_own h1 hbl HV.out (by rw [joinB_length]; omega)⟩
end
section
open Go.RowKit Go.Maps
set_option maxHeartbeats 2000000 in
set_option maxRecDepth 100000 in
theorem listInt_any (w : World) {S : Nat → Prop} {v : Value} {l : List (i64).El} (h : (Sh.list i64).rep w S l [v]) (hl : ((Sh.list i64).enc l).length ≤ 1099511627776) :
    Calls Tryz.prog 71 #[v, .func (Fn.func 38) #[] #[]] w fun e w' => ∃ v', e = .returned v' ∧ Fresh w w' v' ((Sh.list i64).enc l) := by
  obtain ⟨A, cap, rfl, hlen, hat⟩ := list_at h
  have H := Lib.hid h; clear h
  have hl' : (joinB (l.map (i64).enc)).length ≤ 1099511627776 := hl
  have hcnt := joinP_count (l.map (i64).enc)
  rw [joinB_length] at hl'
  rw [List.length_map] at hcnt
  have HLL := Lib.hid hl
  clear hl hat
  go_enter Tryz.func71, Tryz.ntmps71
  go_wp2_with fail
  go_loopw [5, 10] (fun a i wr => ∃ k : Nat, k ≤ l.length ∧ i = .int .i64 k ∧ Bss wr (fun b => w.heap.size ≤ b) (fun b => w.heap.size ≤ b) a ((l.take k).map (i64).enc) ∧ Below w.heap.size w wr) (fun _ i _ => l.length - (intOf i).toNat)
  case atStart => exact ⟨0, Nat.zero_le _, rfl, Bss.nil_ _ _ _, Below.refl _ _⟩
  case round =>
    obtain ⟨k, hk, rfl, hB, hbl⟩ := hrel
    by_cases hlt : k < l.length
    · obtain ⟨R, hR⟩ : ∃ R, R = (l.take k).map (i64).enc := ⟨_, rfl⟩
      rw [← hR] at hB
      have hRl : R.length = k := by rw [hR, List.length_map, List.length_take]; omega
      have hnext : (l.take (k + 1)).map (i64).enc = R ++ [(i64).enc l[k]] := by rw [List.take_succ_eq_append_getElem hlt, List.map_append, ← hR]; rfl
      obtain ⟨Aa, ca, rfl⟩ := hB.form
      obtain ⟨_, _, e, _, hat⟩ := list_at (Sh.rep_below H.out hbl)
      injection e with e1 e2 e3
      subst e1 e3
      obtain ⟨b, off, c, rfl, hca, hr, hcl, _, _⟩ := hat k hlt
      obtain ⟨x, hx⟩ : ∃ x, x = l[k] := ⟨_, rfl⟩
      rw [← hx] at hr hnext
      obtain ⟨rfl, _⟩ := hr
      have hcell := Lies.one hca
      have hcell : wr.cell? ⟨b, off + k, none⟩ = some (.int .i64 x) := by simpa [Sh.cells, nk] using hcell
      have hown : ∀ k, (Value.slice Aa R.length ca).ownBlock = some k → k < wr.heap.size := fun k hk => by obtain ⟨vs, ho, _⟩ := hB; exact own_lt ho hk
      have HB := Lib.hid hB
      have HN := Lib.hid hnext
      have HRL := Lib.hid hRl
      have HOWN := Lib.hid hown
      clear hB hca hcl hat hx hR hnext hRl hown
      go_wp2_with fail
      refine (numInt_any _ _).mono ?_
      rintro e w1 ⟨v1, rfl, f1⟩
      have hb1 := hbl.trans (f1.2.mono hbl.size)
      obtain ⟨y, hy⟩ : ∃ y, y = (i64).enc x := ⟨_, rfl⟩
      have f1 : Fresh wr w1 v1 y := hy ▸ f1
      rw [← hy] at HN
      obtain ⟨A1, c1, rfl⟩ := f1.1.form
      obtain ⟨vs, ho, hS, hr⟩ := HB.out.below f1.2
      have hsz1 := f1.2.size
      have hal : Below w1.heap.size w1 (w1.alloc (.cells #[.slice A1 y.length c1] 22)) := (Below.refl _ w1).alloc (Nat.le_refl _) _
      have HAL := Lib.hid hal
      have HO := Lib.hid (show Own (w1.alloc (.cells #[.slice A1 y.length c1] 22)) _ _ _ _ _ from own_keep ho fun k hk => hal.block k (own_lt ho hk))
      have HS := Lib.hid hS
      have HR := Lib.hid (fun i x u h1 h2 => (hr i x u h1 h2).below hal)
      have HU := Lib.hid ((f1.1.1.below hal).sub (T := fun b => w.heap.size ≤ b ∧ (Value.slice Aa R.length ca).ownBlock ≠ some b) fun b hb _ => ⟨Nat.le_trans hbl.size hb.1, fun e => by have := HOWN.out b e; omega⟩)
      have HS2 := Lib.hid (Cs.of_new w1 22 (size := 1) 1 (cs := [.slice A1 y.length c1]) rfl (by simp only [maxLen]; decide))
      have H63 := Lib.hid (show R.length + 1 ≤ maxLen ∧ (R.length + 1) * 24 ≤ 140737488355328 from by have := HRL.out; refine ⟨by simp only [maxLen]; omega, by omega⟩)
      clear ho hS hr hal f1 hy
      go_wp2_with (at_builtin; refine wpList_app _ rfl _ _ _ rfl Tryz.underlying121 info_row rfl (by decide) HO.out rfl HS2.out rfl (by simp [Value.oneCell']) H63.out.1 H63.out.2 ?_; intro v3 w3 ho3 hg3 hnil3 hat3; clear hnil3; have HO3 := Lib.hid ho3; clear ho3; have HG3 := Lib.hid hg3; clear hg3; have HAT3 := Lib.hid hat3; clear hat3)
      have hpush := Bss.push HO.out HS.out HR.out HU.out HO3.out HG3.out HAT3.out (by have := hb1.size; have := HAL.out.size; omega)
      rw [← HN.out] at hpush
      refine ⟨⟨k + 1, by omega, by push_cast; rfl, hpush, (hb1.trans (HAL.out.mono hb1.size)).trans (HG3.out.below (Nat.le_trans hb1.size HAL.out.size) fun b h => HS.out b h)⟩, ?_⟩
      simp only [intOf]
      omega
    · have hk' : k = l.length := by omega
      rw [hk', List.take_length] at hB
      have hsm : ∀ x ∈ l.map (i64).enc, x.length ≤ 140737488355328 := fun x hx => by have := joinP_mem hx; omega
      have hj := join_any _ ((hB.read hsm).lt_ (T := fun b => w.heap.size ≤ b) fun b h => h.elim id id) (by rw [joinB_length]; omega) fun b h => h.2
      have HJ := Lib.hid hj
      obtain ⟨R, hR⟩ : ∃ R, R = l.map (i64).enc := ⟨_, rfl⟩
      have HR := Lib.hid hR
      rw [← hR] at hB HJ
      obtain ⟨Aa, ca, rfl⟩ := hB.form
      clear hj hB hR hsm
      go_wp2_with fail
      refine HJ.out.mono ?_
      rintro e w1 ⟨v1, rfl, f1⟩
      go_wp2_with fail
      go_ret
      refine ⟨v1, rfl, ?_, hbl.trans (f1.2.mono hbl.size)⟩
      have := f1.1.sub (T := fun b => w.heap.size ≤ b ∧ Th w1 b) fun b hb _ => ⟨Nat.le_trans hbl.size hb.1, hb.2⟩
      rw [HR.out] at this
      exact this
theorem nums_any (w : World) {S : Nat → Prop} {v : Value} {l : List i64.El} (h : (Sh.list i64).rep w S l [v]) (hl : ((Sh.list i64).enc l).length ≤ 1099511627776) :
    Calls Tryz.prog 39 #[v] w fun e w' => ∃ v', e = .returned v' ∧ Fresh w w' v' ((Sh.list i64).enc l) := by
  have hj := listInt_any w h hl
  have HJ := Lib.hid hj; clear hj
  go_enter Tryz.func39, Tryz.ntmps39
  go_wp2_with fail
  refine HJ.out.mono ?_
  rintro e w1 ⟨v1, rfl, f1⟩
  go_wp2_with fail
  go_ret
  exact ⟨v1, rfl, f1⟩
end
section
open Go.RowKit Go.Maps
theorem Bs.of_range {w : World} {S : Nat → Prop} {b off : Nat} {x : List UInt8} (hS : S b) (hlt : b < w.heap.size) (h : w.rangeAt b off (u8s x)) (hl : x.length ≤ 1000) : Bs w S (.slice (some ⟨b, off, none⟩) x.length x.length) x :=
  ⟨⟨by simp [u8s], _, _, rfl, Nat.le_refl _, by simp only [maxLen]; omega, fun _ => ⟨b, off, rfl, hS, hlt, fun j u hj => h j u hj⟩⟩, by omega⟩
theorem Bs.of_range32 {w : World} {S : Nat → Prop} {b off : Nat} {x : List UInt8} (hS : S b) (hlt : b < w.heap.size) (h : w.rangeAt b off (u8s x)) (hl : x.length = 32) : Bs w S (.slice (some ⟨b, off, none⟩) 32 32) x := by
  have := Bs.of_range hS hlt h (by omega)
  rwa [hl] at this
theorem Bss.empty (w : World) (S T : Nat → Prop) (hS : S w.heap.size) : Bss (w.alloc (.cells #[] 22)) S T (.slice (some ⟨w.heap.size, 0, none⟩) 0 0) [] :=
  ⟨[], Own.empty w 22 1, fun k h => by simp [Value.ownBlock] at h; exact h ▸ hS, fun i x u h => by simp at h⟩
theorem Bss.empty1 (w : World) (o : Obj) : Bss ((w.alloc o).alloc (.cells #[] 22)) (fun b => w.heap.size + 1 ≤ b) (fun b => w.heap.size + 1 ≤ b) (.slice (some ⟨w.heap.size + 1, 0, none⟩) 0 0) [] := by
  have := Bss.empty (w.alloc o) (fun b => w.heap.size + 1 ≤ b) (fun b => w.heap.size + 1 ≤ b) (by simp)
  rwa [show (w.alloc o).heap.size = w.heap.size + 1 by simp] at this
theorem Bsr.drew_ {w : World} {S : Nat → Prop} {v : Value} {rows : List (List UInt8)} (h : Bsr w S v rows) : Bsr w.drew S v rows := by
  obtain ⟨vs, h1, h2⟩ := h
  exact ⟨vs, h1, h2⟩
theorem rNumI_any (w : World) (n : Int) : Calls Tryz.prog 49 #[.int .u64 (IntKind.u64.wrap n)] w fun e w' => ∃ v', e = .returned v' ∧ Fresh w w' v' (numB n) := by
  have := rNum_any w (n % 18446744073709551616).toNat (by omega)
  rw [show (((n % 18446744073709551616).toNat : Nat) : Int) = IntKind.u64.wrap n from by rw [show IntKind.u64 = nk false from rfl, wrap_u]; omega] at this
  exact this
theorem rNumU_any (w : World) (n : Int) (hn : (nk false).wrap n = n) : Calls Tryz.prog 49 #[.int .u64 n] w fun e w' => ∃ v', e = .returned v' ∧ Fresh w w' v' (numB n) := by
  have := rNumI_any w n
  rw [show IntKind.u64 = nk false from rfl, hn] at this
  exact this
end
section
open Go.RowKit Go.Maps
theorem Cs.preU {w : World} {S : Nat → Prop} {A : Option Addr} {m cap : Nat} {xs : List Value} (h : Cs w S 1 (.slice A m cap) m xs) (hi : Nat) (h2 : hi ≤ m) :
    ∃ A' c', (∀ w' : World, (Instr.sliceAt 22 (.slice A m cap) none (some (.int .u64 hi)) none).run Tryz.prog w' = .ok (.slice A' hi c') w') ∧ Cs w S 1 (.slice A' hi c') hi (xs.take hi) := by
  obtain ⟨hl, A0, cap0, e, hn, hc, hp⟩ := h
  injection e with e0 _ e2
  subst e0 e2
  cases A with
  | none =>
    have hm : m = 0 := by
      rcases Nat.eq_zero_or_pos m with h | h
      · exact h
      · obtain ⟨_, _, e, _⟩ := hp h; cases e
    subst hm
    obtain rfl : hi = 0 := by omega
    refine ⟨none, cap, fun w' => ?_, by simp, _, _, rfl, by omega, hc, fun h => absurd h (by omega)⟩
    have h4 : (0 : Int) ≤ (cap : Int) := by omega
    go_simp
  | some a =>
    obtain ⟨ab, ao, asp⟩ := a
    refine ⟨some ⟨ab, ao, asp⟩, cap, fun w' => ?_, by rw [List.length_take, hl]; omega, _, _, rfl, by omega, hc, fun h0 => ?_⟩
    · have h3 : (0 : Int) ≤ (hi : Int) := by omega
      have h4 : (hi : Int) ≤ (cap : Int) := by omega
      go_simp
      try simp
    · obtain ⟨b, off, e, hS, hlt, hcell⟩ := hp (by omega)
      refine ⟨b, off, e, hS, hlt, fun j u hu => ?_⟩
      rw [List.getElem?_take] at hu
      split at hu
      · exact hcell j u hu
      · cases hu
theorem Cs.tailU {w : World} {S : Nat → Prop} {A : Option Addr} {m cap : Nat} {xs : List Value} (h : Cs w S 1 (.slice A m cap) m xs) (lo : Nat) (h1 : lo ≤ m) :
    ∃ A' c', (∀ w' : World, (Instr.sliceAt 22 (.slice A m cap) (some (.int .u64 lo)) none none).run Tryz.prog w' = .ok (.slice A' (m - lo) c') w') ∧ Cs w S 1 (.slice A' (m - lo) c') (m - lo) (xs.drop lo) := by
  obtain ⟨hl, A0, cap0, e, hn, hc, hp⟩ := h
  injection e with e0 _ e2
  subst e0 e2
  cases A with
  | none =>
    have hm : m = 0 := by
      rcases Nat.eq_zero_or_pos m with h | h
      · exact h
      · obtain ⟨_, _, e, _⟩ := hp h; cases e
    subst hm
    obtain rfl : lo = 0 := by omega
    refine ⟨none, cap, fun w' => ?_, by simpa using hl, _, _, rfl, by omega, hc, fun h => absurd h (by omega)⟩
    have h4 : (0 : Int) ≤ (cap : Int) := by omega
    go_simp
  | some a =>
    obtain ⟨ab, ao, asp⟩ := a
    refine ⟨if cap = lo then some ⟨ab, ao, asp⟩ else some (Addr.add ⟨ab, ao, asp⟩ lo), cap - lo, fun w' => ?_, ?_, _, _, rfl, by omega, by simp only [maxLen] at hc ⊢; omega, fun h0 => ?_⟩
    · have h3 : (lo : Int) ≤ (m : Int) := by omega
      have h4 : (m : Int) ≤ (cap : Int) := by omega
      go_simp
    · rw [List.length_drop, hl]; omega
    · obtain ⟨b, off, e, hS, hlt, hcell⟩ := hp (by omega)
      injection e with e
      injection e with e1 e2 e3
      subst e1 e2 e3
      rw [if_neg (by omega), Addr.add_mid]
      refine ⟨ab, ao + lo, rfl, hS, hlt, fun j u hu => ?_⟩
      rw [List.getElem?_drop] at hu
      rw [Nat.add_assoc]
      exact hcell _ u hu
theorem cutB_many : ∀ (n : Nat) (r : List UInt8), r.length / 8 < n → cutB n r = none := fun n r h => by
  cases hc : cutB n r with
  | none => rfl
  | some l =>
    obtain ⟨h1, h2⟩ := cutB_back n r l hc
    have := joinP_count l
    rw [h2] at this
    omega
theorem splitB_cut {b : List UInt8} (h : 8 ≤ b.length) : splitB b = cutB (Lib.beNat (b.take 8)) (b.drop 8) := by
  unfold splitB
  by_cases h1 : (b.length - 8) / 8 < Lib.beNat (b.take 8)
  · rw [if_pos (.inr h1), cutB_many _ _ (by rw [List.length_drop]; exact h1)]
  · rw [if_neg (by omega)]
def lenOf : Value → Nat
  | .slice _ n _ => n
  | _ => 0
theorem mod64 (n : Nat) (h : n < 18446744073709551616) : (n : Int) % 18446744073709551616 = n := by omega
set_option maxHeartbeats 4000000 in
set_option maxRecDepth 100000 in
theorem rsplit_any (w : World) {S : Nat → Prop} {v : Value} {bs : List UInt8} (h : Bs w S v bs) (hlen : bs.length ≤ 1099511627776) :
    Calls Tryz.prog 45 #[v] w (SplitOut w bs) := by
  replace h := h.sub (T := fun b => b < w.heap.size) (fun b _ hlt => hlt)
  have HT := Lib.hid (take_any w h.1 hlen)
  obtain ⟨A, cap, rfl⟩ := h.form
  clear h
  by_cases h8 : bs.length < 8
  · have hno : splitB bs = none := by unfold splitB; rw [if_pos (.inl h8)]
    have HNO := Lib.hid hno; clear hno
    go_enter Tryz.func45, Tryz.ntmps45
    go_wp2_with fail
    refine HT.out.mono ?_
    rintro e w1 ⟨hb1, ⟨_, rfl⟩ | ⟨h, _⟩⟩
    · go_wp2_with fail
      go_loopw [5, 7] (fun r o wr => r = .slice none 0 0 ∧ o = .slice (some ⟨w1.heap.size, 0, none⟩) 0 0 ∧ wr = w1.alloc (.cells #[] 22)) (fun _ _ _ => 0)
      case atStart => exact ⟨rfl, rfl, rfl⟩
      case round =>
        obtain ⟨rfl, rfl, rfl⟩ := hrel
        go_wp2_with fail
        go_ret2
        exact SplitOut.no (hb1.alloc hb1.size _) HNO.out
    · omega
  · have h8' : 8 ≤ bs.length := by omega
    obtain ⟨n, hn⟩ : ∃ n, n = Lib.beNat (bs.take 8) := ⟨_, rfl⟩
    have hnlt : n < 18446744073709551616 := by rw [hn]; exact beNat_lt8 _ (by rw [List.length_take]; omega)
    have hsp := splitB_cut h8'
    rw [← hn] at hsp
    have HN := Lib.hid hn
    have HSP := Lib.hid hsp
    obtain ⟨q0, hq0⟩ : ∃ q0, q0 = bs.length - 8 := ⟨_, rfl⟩
    have HQ0 := Lib.hid hq0
    have hq0l : q0 ≤ 1099511627776 := by omega
    clear hn hsp hq0
    go_enter Tryz.func45, Tryz.ntmps45
    go_wp2_with fail
    refine HT.out.mono ?_
    rintro e w1 ⟨hb1, ⟨h, _⟩ | ⟨_, A1, c1, rfl, hcs⟩⟩
    · omega
    rw [← HQ0.out] at hcs ⊢
    rw [← HN.out]
    have HCS := Lib.hid hcs
    have HB1 := Lib.hid hb1
    have HE := Lib.hid (Bss.empty w1 (New w) (New w) hb1.size)
    have hz1 := hb1.size
    clear hcs hb1 HT
    go_wp2_with fail
    go_loopw [5, 7] (fun v o wr => ∃ (done : List (List UInt8)) (r : List UInt8), done.length ≤ n ∧ Cs wr (fun b => b < w.heap.size) 1 v r.length (u8s r) ∧ r.length + 8 * done.length ≤ q0 ∧ Bss wr (New w) (New w) o done ∧ Below w.heap.size w wr ∧ splitB bs = (cutB (n - done.length) r).map (fun l => done ++ l)) (fun v _ _ => lenOf v)
    case atStart => exact ⟨[], bs.drop 8, Nat.zero_le _, by rw [List.length_drop, ← HQ0.out]; exact HCS.out.below ((Below.refl _ w1).alloc (Nat.le_refl _) _), by rw [List.length_drop, ← HQ0.out]; simp, HE.out, HB1.out.alloc HB1.out.size _, by rw [HSP.out]; simp⟩
    case round =>
      obtain ⟨done, r, hk, hcr, hrm, hbss, hbl2, hps⟩ := hrel
      obtain ⟨Ar, cr, rfl⟩ := hcr.form
      obtain ⟨q, hq⟩ : ∃ q, q = r.length := ⟨_, rfl⟩
      obtain ⟨k, hkd⟩ : ∃ k, k = done.length := ⟨_, rfl⟩
      have HTK := Lib.hid (take_any wr hcr (by omega))
      rw [← hq] at hcr hrm ⊢
      rw [← hq] at HTK
      rw [← hkd] at hk hps hrm
      have HPS := Lib.hid hps; clear hps
      have HDK := Lib.hid hkd
      have HQ := Lib.hid hq; clear hq
      obtain ⟨Ao, co, rfl⟩ := hbss.form
      rw [← hkd]
      have ewk : IntKind.u64.wrap (k : Int) = k := wrapU _ (by omega) (by omega)
      by_cases hkn : k < n
      · have hnk : n - k = (n - k - 1) + 1 := by omega
        have HNK := Lib.hid hnk; clear hnk
        have hknI : (k : Int) < (n : Int) := by omega
        rw [hkd] at ewk hknI ⊢
        go_wp2_with fail
        refine HTK.out.mono ?_
        rintro e w2 ⟨hb2, ⟨h9, rfl⟩ | ⟨h9, A2, c2, rfl, hcs2⟩⟩
        · have hno := Lib.hid (cutB_no (n - k - 1) r (.inl h9))
          clear hbss hcr
          go_wp2_with fail
          go_ret2
          exact SplitOut.no (hbl2.trans (hb2.mono hbl2.size)) (by rw [HPS.out, HNK.out, hno.out]; rfl)
        · obtain ⟨y, hy⟩ : ∃ y, y = Lib.beNat (r.take 8) := ⟨_, rfl⟩
          have HY := Lib.hid hy
          have hylt : y < 18446744073709551616 := by rw [hy]; exact beNat_lt8 _ (by rw [List.length_take]; omega)
          obtain ⟨p, hp⟩ : ∃ p, p = r.length - 8 := ⟨_, rfl⟩
          rw [← hp] at hcs2 ⊢
          rw [← hy]
          have HP := Lib.hid hp
          have hpq : p ≤ 1099511627776 := by have := HQ.out; omega
          have ewp : IntKind.u64.wrap (p : Int) = p := wrapU _ (by omega) (by omega)
          have hbss2 := hbss.below hb2
          have hbl3 := hbl2.trans (hb2.mono hbl2.size)
          clear hy hp hbss hcr
          by_cases hby : p < y
          · have hbyI : (p : Int) < (y : Int) := by omega
            have hno := Lib.hid (cutB_no (n - k - 1) r (.inr (by rw [← HP.out, ← HY.out]; exact hby)))
            clear hbss2 hcs2
            go_wp2_with fail
            go_ret2
            exact SplitOut.no hbl3 (by rw [HPS.out, HNK.out, hno.out]; rfl)
          · have hbyI : ¬ (p : Int) < (y : Int) := by omega
            have hst := Lib.hid (cutB_step (n - k - 1) r (by rw [← HP.out, ← HY.out]; omega))
            obtain ⟨A4, c4, hr4, hc4⟩ := hcs2.preU y (by omega)
            obtain ⟨A5, c5, hr5, hc5⟩ := hcs2.tailU y (by omega)
            have HC4 := Lib.hid hc4; clear hc4
            have HC5 := Lib.hid hc5; clear hc5
            obtain ⟨x, hx⟩ : ∃ x, x = (r.drop 8).take y := ⟨_, rfl⟩
            have hxl : x.length = y := by rw [hx, List.length_take, List.length_drop]; have := HP.out; omega
            have hxc : (u8s (r.drop 8)).take y = u8s x := by rw [hx]; simp [u8s, List.map_take]
            rw [hxc] at HC4
            have HX := Lib.hid hx; clear hx
            have HXL := Lib.hid hxl; clear hxl hxc
            have HBSS := Lib.hid hbss2
            obtain ⟨vs, hoo, hoS, hoR⟩ := hbss2
            have hdl : done.length ≤ 274877906944 := by rw [← HDK.out]; omega
            have h63 : 0 + y ≤ maxLen := by simp only [maxLen]; omega
            have hby1 : (0 + y) * 1 ≤ 140737488355328 := by omega
            have h63b : done.length + 1 ≤ maxLen := by simp only [maxLen]; omega
            have hby2 : (done.length + 1) * 24 ≤ 140737488355328 := by omega
            have H63 := Lib.hid (And.intro h63 (And.intro hby1 (And.intro h63b hby2))); clear h63 hby1 h63b hby2
            have HOO := Lib.hid hoo; clear hoo
            have HOR := Lib.hid hoR; clear hoR
            have HOS := Lib.hid hoS; clear hoS
            clear hcs2
            go_wp2_with (first
              | (at_builtin; refine wpList_app _ rfl _ _ _ rfl Tryz.underlying22 info_u8 rfl (by decide) (Own.empty w2 5 1) rfl (HC4.out.below ((Below.refl _ w2).alloc (Nat.le_refl _) _)) rfl (u8s_one _) H63.out.1 H63.out.2.1 ?_; intro v1 w5 ho5 hc5 hnil5 hat5; clear hnil5
                 have hb5 : Below w2.heap.size w2 w5 := (((Chg.refl (fun b => b = w2.heap.size) w2).alloc _).trans hc5 fun b h => .inl (by simp [Value.ownBlock] at h; exact h.symm)).below (Nat.le_refl _) fun b h => Nat.le_of_eq h.symm
                 rw [Nat.zero_add, List.nil_append] at ho5
                 have ho5' : Own w5 5 1 v1 y (u8s x) := ho5
                 have hv5 : ∀ k, v1.ownBlock = some k → w2.heap.size ≤ k := fun k hk => by
                   rcases hat5 with e | e
                   · rw [e] at hk; simp [Value.ownBlock] at hk; omega
                   · rw [e] at hk; injection hk with hk; simp at hk; omega
                 clear ho5 hc5 hat5
                 obtain ⟨A6, cap6, rfl⟩ := ho5'.form
                 have HO5 := Lib.hid ho5'; clear ho5'
                 have HV5 := Lib.hid hv5; clear hv5
                 have HO2 := Lib.hid (show ∀ ob, Own (w5.alloc ob) 22 1 (.slice Ao done.length co) done.length vs from fun ob => own_keep HOO.out fun k hk => (Below.heap_alloc w5 ob k (ltle (own_lt HOO.out hk) hb5.size)).trans (hb5.block k (own_lt HOO.out hk)))
                 have HS2 := Lib.hid (Cs.of_new w5 22 (size := 1) 1 (cs := [.slice A6 y cap6]) rfl (by simp only [maxLen]; decide))
                 have HB5 := Lib.hid hb5; clear hb5)
              | (at_builtin; refine wpList_app _ rfl _ _ _ rfl Tryz.underlying121 info_row rfl (by decide) (HO2.out _) rfl HS2.out rfl (by simp [Value.oneCell']) H63.out.2.2.1 H63.out.2.2.2 ?_; intro v2 w6 ho6 hc6 hnil6 hat6; clear hnil6
                 obtain ⟨A7, cap7, rfl⟩ := ho6.form
                 have HO6 := Lib.hid ho6; clear ho6
                 have HC6 := Lib.hid hc6; clear hc6
                 have HAT6 := Lib.hid hat6; clear hat6))
            have hs5 := HB5.out.size
            have hsM := hbl3.size
            have hox : ∀ k, (Value.slice Ao done.length co).ownBlock = some k → k < w2.heap.size := fun k hk => own_lt HOO.out hk
            have hal : w5.heap.size ≤ (w5.alloc (.cells #[.slice A6 y cap6] 22)).heap.size := by simp
            have hbX : Below w2.heap.size w2 (w5.alloc (.cells #[.slice A6 y cap6] 22)) := HB5.out.alloc hs5 _
            have hxv : Cs (w5.alloc (.cells #[.slice A6 y cap6] 22)) (fun b => New w b ∧ (Value.slice Ao done.length co).ownBlock ≠ some b) 1 (.slice A6 y cap6) x.length (u8s x) := by
              rw [HXL.out]
              exact (Cs.of_own HO5.out (S := fun b => New w b ∧ (Value.slice Ao done.length co).ownBlock ≠ some b) fun k hk => ⟨Nat.le_trans hsM (HV5.out k hk), fun e => by have := hox _ e; have := HV5.out k hk; omega⟩).below ((Below.refl _ w5).alloc (Nat.le_refl _) _)
            have hpush := Bss.push (S := New w) (T := New w) (HO2.out _) HOS.out (fun i y u h1 h2 => (HOR.out i y u h1 h2).below hbX) hxv HO6.out HC6.out HAT6.out (Nat.le_trans hsM (Nat.le_trans hs5 hal))
            have hrl : ((r.drop 8).drop y).length = p - y := by rw [List.length_drop, List.length_drop, ← HP.out]
            have h1 : Below w.heap.size w (w5.alloc (.cells #[.slice A6 y cap6] 22)) := hbl3.trans (hbX.mono hsM)
            have hdl1 : (done ++ [x]).length = k + 1 := by rw [List.length_append, ← HDK.out]; rfl
            have hpq8 : p + 8 = q := by have := HP.out; have := HQ.out; omega
            refine ⟨⟨done ++ [x], (r.drop 8).drop y, by rw [hdl1]; omega, ?_, by rw [hrl, hdl1]; omega, hpush, h1.trans (HC6.out.below h1.size fun k hk => HOS.out k hk), ?_⟩, ?_⟩
            · have := HC5.out
              rw [show (u8s (r.drop 8)).drop y = u8s ((r.drop 8).drop y) by simp [u8s, List.map_drop]] at this
              rw [hrl]
              exact (this.below hbX).chg HC6.out fun b hb hk => by have := HOS.out b hk; omega
            · rw [HPS.out, HNK.out, hst.out, hdl1, ← HY.out, ← HX.out, Option.map_map, List.drop_drop, show n - k - 1 = n - (k + 1) by omega]
              congr 1
              funext l
              simp
            · simp only [lenOf]; omega
      · have hkn' : k = n := by omega
        have hknI : ¬ (k : Int) < (n : Int) := by omega
        have HKN := Lib.hid hkn'
        have HB := Lib.hid hbss
        have HBL := Lib.hid hbl2
        rw [hkd] at ewk hknI
        by_cases hr0 : 0 < q
        · have hr0I : (0 : Int) < (q : Int) := by omega
          have hno := Lib.hid (cutB_zero r (by rw [← HQ.out]; exact hr0))
          clear hbss hcr hbl2 HTK
          go_wp2_with fail
          go_ret2
          exact SplitOut.no HBL.out (by rw [HPS.out, HKN.out, Nat.sub_self, hno.out]; rfl)
        · have hr : r = [] := List.eq_nil_of_length_eq_zero (by rw [← HQ.out]; omega)
          have hr0I : ¬ (0 : Int) < (q : Int) := by omega
          have HR := Lib.hid hr
          clear hbss hcr hbl2 HTK hr hkn'
          go_wp2_with fail
          go_ret2
          exact ⟨HBL.out, .inr ⟨_, done, by rw [HPS.out, HKN.out, Nat.sub_self, HR.out]; simp [cutB], rfl, HB.out⟩⟩
end
section
open Go.RowKit Go.Maps
theorem Pt.grow {w w' : World} {X M Y : Nat → Prop} {E g : Nat} {sent : Value} {rows : List (List UInt8)} {bad : Bool} (h : Pt w X E g sent rows bad) (hc : Chg M w w') (hM : ∀ b, M b → X b ∧ b ≠ g)
    (hY : ∀ b, Y b → X b ∨ (w.heap.size ≤ b ∧ b < w'.heap.size)) (hg : Y g) : Pt w' Y E g sent rows bad := by
  obtain ⟨hg', hn, hx, hl, hE, v, e, h1, h2, h3⟩ := h
  have hs : ∀ b, ¬ X b → b < w.heap.size → ¬ Y b := fun b hb hlt hy => (hY b hy).elim hb fun h => by omega
  exact ⟨hg'.chg hc fun h => hn (hM _ h).1, hs _ hn hg'.lt, hg, fun b h => (hY b h).elim (fun h => ltle (hl b h) hc.size) fun h => h.2, Nat.le_trans hE hc.size, v, e, h1.chg hc fun h => (hM _ h).2 rfl,
    (h2.subs (T := fun b => ¬ Y b ∧ ¬ M b) fun b hb hlt => ⟨hs b hb hlt, fun h => hb (hM b h).1⟩).chg hc (fun b hb => hb.2) |>.subs fun b hb _ => hb.1,
    h3.to (fun b hb hlt => ⟨ltle hlt hc.size, hc.block b hlt fun h => hb.1 (hM _ h).1⟩) fun b hb hlt => ⟨hs b hb.1 hlt, hb.2⟩⟩
def LOut (s : Sh) (w : World) (S : Nat → Prop) (l : List (List UInt8)) (css : List (List Value)) (bad bad' : Bool) : Prop :=
  css.length = l.length ∧ (∀ c ∈ css, c.length = s.cells) ∧ ((∃ xs, allO (l.map s.dec) = some xs ∧ bad' = bad ∧ Two (s.rep w S) xs css) ∨ (allO (l.map s.dec) = none ∧ bad' = true))
theorem LOut.nil_ (s : Sh) (w : World) (S : Nat → Prop) (bad : Bool) : LOut s w S [] [] bad bad := ⟨rfl, fun c h => (by cases h), .inl ⟨[], rfl, rfl, .nil⟩⟩
theorem allO_snoc {α : Type} (l : List (Option α)) (o : Option α) : allO (l ++ [o]) = match allO l, o with | some r, some a => some (r ++ [a]) | _, _ => none := by
  induction l with
  | nil => cases o <;> rfl
  | cons p l ih =>
    simp only [List.cons_append, allO, ih]
    cases p with
    | none => cases allO l <;> cases o <;> rfl
    | some b => cases allO l <;> cases o <;> rfl
theorem LOut.snoc {s : Sh} {w w' : World} {S S' : Nat → Prop} {l : List (List UInt8)} {css : List (List Value)} {x : List UInt8} {c : List Value} {bad b1 b2 : Bool} (h : LOut s w S l css bad b1) (k : SOut s w' S' x c b1 b2)
    (hk : ∀ b, S b → b < w.heap.size → b < w'.heap.size ∧ w'.heap[b]? = w.heap[b]?) (hs : ∀ b, S b → b < w.heap.size → S' b) : LOut s w' S' (l ++ [x]) (css ++ [c]) bad b2 := by
  obtain ⟨h1, h2, h3⟩ := h
  obtain ⟨k1, k2, k3⟩ := k
  refine ⟨by simp [h1], fun d hd => (List.mem_append.1 hd).elim (h2 d) fun hd => by obtain rfl := List.mem_singleton.1 hd; exact k1, ?_⟩
  rw [List.map_append, List.map_cons, List.map_nil, allO_snoc]
  rcases h3 with ⟨xs, e1, e2, e3⟩ | ⟨e1, e2⟩ <;> rcases k3 with ⟨y, f1, f2, f3⟩ | ⟨f1, f2⟩ <;> rw [e1, f1]
  · exact .inl ⟨xs ++ [y], rfl, by rw [f2, e2], (e3.map fun a b h => Sh.rep_to hk hs s a b h).append (.cons f3 .nil)⟩
  · exact .inr ⟨rfl, f2⟩
  · exact .inr ⟨rfl, by rw [f2, e2]⟩
  · exact .inr ⟨rfl, f2⟩
theorem LOut.to {s : Sh} {w w' : World} {S S' : Nat → Prop} {l : List (List UInt8)} {css : List (List Value)} {bad b1 : Bool} (h : LOut s w S l css bad b1)
    (hk : ∀ b, S b → b < w.heap.size → b < w'.heap.size ∧ w'.heap[b]? = w.heap[b]?) (hs : ∀ b, S b → b < w.heap.size → S' b) : LOut s w' S' l css bad b1 :=
  ⟨h.1, h.2.1, h.2.2.imp (fun ⟨xs, e1, e2, e3⟩ => ⟨xs, e1, e2, e3.map fun a b h => Sh.rep_to hk hs s a b h⟩) id⟩
theorem LOut.list {s : Sh} {w : World} {S : Nat → Prop} {x : List UInt8} {l : List (List UInt8)} {css : List (List Value)} {bad b1 : Bool} {v : Value} (h : LOut s w S l css bad b1) (hsp : splitB x = some l) (hv : Cs w S s.cells v l.length css.flatten) : SOut (.list s) w S x [v] bad b1 := by
  obtain ⟨h1, _, h3⟩ := h
  obtain ⟨A, c, rfl⟩ := hv.form
  have hd : (Sh.list s).dec x = (match splitB x with | none => none | some l => allO (l.map s.dec)) := rfl
  refine ⟨rfl, fun u hu => by obtain rfl := List.mem_singleton.1 hu; rfl, ?_⟩
  rw [hd, hsp]
  refine h3.imp (fun ⟨xs, e1, e2, e3⟩ => ⟨xs, e1, e2, _, css, rfl, ?_, e3⟩) id
  have : xs.length = l.length := by rw [e3.length, h1]
  show Cs w S s.cells _ (List.length (α := s.El) xs) _
  rw [this]
  exact hv
theorem SOut.noList {s : Sh} {w : World} {S : Nat → Prop} {x : List UInt8} {v : Value} {bad : Bool} (hsp : splitB x = none) (hv : v.oneCell' = true) : SOut (.list s) w S x [v] bad true := by
  have hd : (Sh.list s).dec x = (match splitB x with | none => none | some l => allO (l.map s.dec)) := rfl
  refine ⟨rfl, fun u hu => by obtain rfl := List.mem_singleton.1 hu; exact hv, .inr ⟨?_, rfl⟩⟩
  rw [hd, hsp]
theorem Own.tail_ {w : World} {e : TypeId} {size n : Nat} {v : Value} {xs : List Value} (h : Own w e size v n xs) : xs.length = n * size := h.1
def AllI (T : TypeId) (size : Nat) (s : Sh) (w wS : World) (X : Nat → Prop) (E g : Nat) (sent : Value) (rows : List (List UInt8)) (bad : Bool) (l : List (List UInt8)) (o : Value) (k : Nat) (wr : World) : Prop :=
  ∃ css bk, Own wr T size o k css.flatten ∧ (∀ b, o.ownBlock = some b → wS.heap.size ≤ b) ∧ LOut s wr (fun b => Nw w.heap.size wr b ∧ o.ownBlock ≠ some b) (l.take k) css bad bk ∧ Pt wr (fun b => X b ∨ o.ownBlock = some b) E g sent rows bk ∧ Chg (fun b => b = g) wS wr
theorem AllI.start {T : TypeId} {size : Nat} {s : Sh} {w wS : World} {X : Nat → Prop} {E g : Nat} {sent : Value} {rows : List (List UInt8)} {bad : Bool} {l : List (List UInt8)} (hp : Pt wS X E g sent rows bad) : AllI T size s w wS X E g sent rows bad l (.slice none 0 0) 0 wS :=
  ⟨[], bad, Own.nil_ _ _ _, fun b hb => by simp [Value.ownBlock] at hb, LOut.nil_ _ _ _ _, hp.less (fun b h => h.elim id fun h => by simp [Value.ownBlock] at h) (.inl hp.2.2.1), Chg.refl _ _⟩
theorem AllI.step {T : TypeId} {size : Nat} {s : Sh} {w wS wr w3 wb w6 : World} {X : Nat → Prop} {E g k : Nat} {sent o o' : Value} {rows l : List (List UInt8)} {bad bk b2 : Bool} {css : List (List Value)} {y : List UInt8} {C : List Value} {ob : Obj}
    (hgw : g < w.heap.size) (hwS : w.heap.size ≤ wS.heap.size) (hown : Own wr T size o k css.flatten) (hob : ∀ b, o.ownBlock = some b → wS.heap.size ≤ b) (hlo : LOut s wr (fun b => Nw w.heap.size wr b ∧ o.ownBlock ≠ some b) (l.take k) css bad bk) (hch : Chg (fun b => b = g) wS wr)
    (hb3 : Below wr.heap.size wr w3) (ho : SOut s w3 (Nw wr.heap.size w3) y C bk b2) (hcb : Chg (fun b => b = g) w3 wb) (hpb : Pt wb (fun b => X b ∨ o.ownBlock = some b) E g sent rows b2) (hky : l.take (k + 1) = l.take k ++ [y])
    (ho6 : Own w6 T size o' (k + 1) (css.flatten ++ C)) (hc6 : Chg (fun b => o.ownBlock = some b) (wb.alloc ob) w6) (hat : o'.ownBlock = o.ownBlock ∨ o'.ownBlock = some (wb.alloc ob).heap.size) : AllI T size s w wS X E g sent rows bad l o' (k + 1) w6 := by
  have hal := (Below.refl wb.heap.size wb).alloc (Nat.le_refl _) ob
  have z1 := hch.size
  have z2 := hb3.size
  have z3 := hcb.size
  have z4 := hal.size
  have z5 := hc6.size
  have hol : ∀ b, o.ownBlock = some b → b < wr.heap.size := fun b hb => own_lt hown hb
  have hgX : X g := hpb.2.2.1.elim id fun h => absurd (hob g h) (by omega)
  have same : ∀ b, b < w3.heap.size → b ≠ g → o.ownBlock ≠ some b → w6.heap[b]? = w3.heap[b]? := fun b hb hg hne =>
    (hc6.block b (by omega) hne).trans ((hal.block b (by omega)).trans (hcb.block b hb hg))
  have hnew : ∀ b, b < w3.heap.size → o.ownBlock ≠ some b → o'.ownBlock ≠ some b := fun b hb hne e => by
    rcases hat with h | h
    · exact hne (h ▸ e)
    · rw [h] at e; injection e with e; omega
  refine ⟨css ++ [C], b2, by rw [List.flatten_append]; simpa using ho6, fun b hb => ?_, ?_, ?_, ?_⟩
  · rcases hat with h | h
    · exact hob b (h ▸ hb)
    · rw [h] at hb; injection hb with hb; omega
  · rw [hky]
    refine hlo.snoc (ho.to (w' := w6) (S' := fun b => Nw w.heap.size w6 b ∧ o'.ownBlock ≠ some b) (fun b hb hlt => ⟨by omega, same b hlt (by have := hb.1; omega) fun e => by have := hol b e; have := hb.1; omega⟩) fun b hb hlt => ⟨hb.to (by omega) (same b hlt (by have := hb.1; omega) fun e => by have := hol b e; have := hb.1; omega), hnew b hlt fun e => by have := hol b e; have := hb.1; omega⟩)
      (fun b hb hlt => ⟨by omega, (same b (by omega) (by have := hb.1.1; omega) hb.2).trans (hb3.block b hlt)⟩) fun b hb hlt => ⟨hb.1.to (Nat.le_refl _) ((same b (by omega) (by have := hb.1.1; omega) hb.2).trans (hb3.block b hlt)), hnew b (by omega) hb.2⟩
  · refine (hpb.below hal).grow hc6 (fun b hb => ⟨.inr hb, fun e => by have := hob b hb; omega⟩) (fun b hb => ?_) (.inl hgX)
    rcases hb with hb | hb
    · exact .inl (.inl hb)
    · rcases hat with h | h
      · exact .inl (.inr (h ▸ hb))
      · have := own_lt ho6 hb
        rw [h] at hb; injection hb with hb
        exact .inr ⟨by omega, by omega⟩
  · have h1 := hch.trans (Chg.of_below hb3 fun b => b = g) fun b h => .inl h
    have h2 := h1.trans hcb fun b h => .inl h
    exact (h2.alloc ob).trans hc6 fun b h => .inr (hob b h)
theorem AllI.out {T : TypeId} {size : Nat} {s : Sh} {w wS wr : World} {X : Nat → Prop} {E g : Nat} {sent o : Value} {x : List UInt8} {rows l : List (List UInt8)} {bad : Bool} (h : AllI T size s w wS X E g sent rows bad l o l.length wr) (hsz : s.cells = size) (hsp : splitB x = some l) (hval : ∀ y, (Sh.list s).val [y] = y)
    (hgX : X g) (hc : Chg (fun b => b = g) w wS) : Took (.list s) w X E g sent x rows bad (.returned o) wr := by
  obtain ⟨css, bk, hown, hob, hlo, hpt, hch⟩ := h
  subst hsz
  rw [List.take_length] at hlo
  have hlo2 := hlo.to (w' := wr) (S' := Nw w.heap.size wr) (fun b _ hlt => ⟨hlt, rfl⟩) fun b hb _ => hb.1
  have := hc.size
  exact ⟨[o], bk, by rw [hval], hc.trans hch fun b h => .inl h, hpt.less (fun b h => .inl h) hgX, hlo2.list hsp (Cs.of_own hown fun k hk => ⟨Nat.le_trans this (hob k hk), own_th hown hk⟩)⟩
end
section
open Go.RowKit
theorem wpList_and {P : Program} {ops : Array Oper} {Q : Exit → Act → World → Prop} {rest : List Oper} {o3 o4 : Oper} {a : Act} {w : World} (g g1 : Bool) (x y u : Operand)
    (hm : o3.op = .move y) (hp : o4.op = .pick x u (.const (.bool false))) (hg4 : o4.guard = none) (hw : Region.wanted o3 (yielded ops a.tmps) = !g) (hy : a.eval y = .bool (!g1))
    (hx : ∀ v, (a.put o3.dst v).eval x = .bool (!g)) (hu : ∀ v, (a.put o3.dst v).eval u = v)
    (h : ∀ (v : Value) (c : Bool), c = (g || g1) → wpList P ops Q rest ((a.put o3.dst v).put o4.dst (.bool (!c))) w) : wpList P ops Q (o3 :: o4 :: rest) a w := by
  have h4 : ∀ v, (g = false → v = .bool (!g1)) → wpList P ops Q (o4 :: rest) (a.put o3.dst v) w := fun v hv => by
    refine wpList_plain hg4 fun _ hK => ?_
    have e : (execOp (a.put o3.dst v).eval o4).run P w = .ok (.value (.bool (!(g || g1)))) w := by
      cases g with
      | false =>
        have hv := hv rfl
        subst hv
        simp [execOp, hp, hx, hu]
        rfl
      | true =>
        simp [execOp, hp, hx, hu]
        rfl
    unfold Oper.wp
    rw [e]
    exact hK _ _ (h v _ rfl)
  unfold wpList
  cases g with
  | false =>
    rw [if_pos (by rw [hw]; rfl)]
    refine .inl ?_
    have e : (execOp a.eval o3).run P w = .ok (.value (.bool (!g1))) w := by
      simp [execOp, hm, hy]
    unfold Oper.wp
    rw [e]
    exact h4 _ fun _ => rfl
  | true =>
    rw [if_neg (by rw [hw]; decide)]
    exact h4 _ fun h => by cases h
end
section
open Go.RowKit Go.Maps
def RefOut (s : Sh) (w : World) (bs : List UInt8) (e : Ending) (w' : World) : Prop :=
  Below w.heap.size w w' ∧ ∃ cs g, e = .returned (.tuple #[s.val cs, .bool (!g)]) ∧ SOut s w' (Nw w.heap.size w') bs cs false g
def RefOutZ (s : Sh) (z : List Value) (w : World) (bs : List UInt8) (e : Ending) (w' : World) : Prop :=
  Below w.heap.size w w' ∧ ∃ cs g, e = .returned (.tuple #[s.val cs, .bool (!g)]) ∧ SOut s w' (Nw w.heap.size w') bs cs false g ∧ (g = true → cs = z)
theorem RefOutZ.weak {s : Sh} {z : List Value} {w w' : World} {bs : List UInt8} {e : Ending} (h : RefOutZ s z w bs e w') : RefOut s w bs e w' := by
  obtain ⟨h1, cs, g, h2, h3, _⟩ := h
  exact ⟨h1, cs, g, h2, h3⟩
theorem rnum_out (w : World) {S : Nat → Prop} {v : Value} {bs : List UInt8} (h : Bs w S v bs) :
    Calls Tryz.prog 46 #[v] w fun e w' => w' = w ∧ ∃ (m : Nat) (g : Bool), e = .returned (.tuple #[.int .u64 m, .bool (!g)]) ∧ m < 18446744073709551616 ∧ ∀ (sg : Bool) (W : World) (T : Nat → Prop), SOut (.num sg) W T bs [.int (nk sg) ((nk sg).wrap m)] false g := by
  refine (rnum_any w h).mono ?_
  rintro e w' ⟨⟨h8, rfl⟩ | ⟨h8, rfl⟩, rfl⟩
  · exact ⟨rfl, Lib.beNat bs, false, rfl, beNat_lt8 _ h8, fun sg W T => ⟨rfl, fun v hv => by obtain rfl := List.mem_singleton.1 hv; rfl, .inl ⟨(nk sg).wrap (Lib.beNat bs), if_pos h8, rfl, rfl, by cases sg <;> simp [nk, IntKind.wrap_i64, IntKind.wrap_u64] <;> omega⟩⟩⟩
  · exact ⟨rfl, 0, true, rfl, by omega, fun sg W T => ⟨rfl, fun v hv => by obtain rfl := List.mem_singleton.1 hv; rfl, .inr ⟨if_neg h8, rfl⟩⟩⟩
theorem rdig_out (w : World) {S : Nat → Prop} {v : Value} {bs : List UInt8} (h : Bs w S v bs) :
    Calls Tryz.prog 47 #[v] w (RefOut .dig w bs) := by
  refine (rdig_any w h).mono ?_
  rintro e w' ⟨⟨h8, rfl⟩ | ⟨h8, rfl⟩, hb⟩
  · exact ⟨hb, u8s bs, false, rfl, by rw [u8s_length, h8]; rfl, u8s_one bs, .inl ⟨bs, if_pos h8, rfl, rfl, h8⟩⟩
  · exact ⟨hb, z32, true, rfl, rfl, z32_one, .inr ⟨if_neg h8, rfl⟩⟩
theorem info_int : (Tryz.prog.info? 3).map (fun i => (i.zero, i.size, i.bytes)) = some (some (.int .i64 0), 1, 8) := by kernel_rfl
theorem sizes_int : (Tryz.prog.info? 3).map (fun i => (i.zero.map (fun z => z.cells.size), i.size)) = some (some 1, 1) := by kernel_rfl
theorem wrap64_nk (m : Int) : wrap64 m = (nk true).wrap m := by simp only [wrap64, nk_t, IntKind.wrap_i64]
theorem SOut.orr {s : Sh} {w : World} {S : Nat → Prop} {b : List UInt8} {cs : List Value} {bd : Bool} (h : SOut s w S b cs false bd) (bad c : Bool) (hc : c = (bad || bd)) : SOut s w S b cs bad c := hc ▸ h.or_ bad
set_option maxHeartbeats 4000000 in
set_option maxRecDepth 100000 in
theorem rnums_any (w : World) {S : Nat → Prop} {v : Value} {bs : List UInt8} (h : Bs w S v bs) (hlen : bs.length ≤ 1099511627776) :
    Calls Tryz.prog 52 #[v] w (RefOut (.list i64) w bs) := by
  have HS := Lib.hid (rsplit_any w h hlen)
  obtain ⟨A, cap, rfl⟩ := h.form
  clear h
  go_enter Tryz.func52, Tryz.ntmps52
  go_wp2_with fail
  refine HS.out.mono ?_
  rintro e w1 ⟨hb1, ⟨hno, rfl⟩ | ⟨v1, l, hsp, rfl, hbss⟩⟩
  · go_wp2_with fail
    go_loopw [5, 6, 7] (fun a o i wr => a = .bool false ∧ o = .slice (some ⟨w1.heap.size, 0, none⟩) 0 0 ∧ i = .int .i64 0 ∧ wr = w1.alloc (.cells #[] 3)) (fun _ _ _ _ => 0)
    case atStart => exact ⟨rfl, rfl, rfl, rfl⟩
    case round =>
      obtain ⟨rfl, rfl, rfl, rfl⟩ := hrel
      go_wp2_with fail
      go_ret2
      exact ⟨hb1.alloc hb1.size _, [_], true, rfl, SOut.noList hno rfl⟩
  · have HSP := Lib.hid hsp
    obtain ⟨A1, c1, rfl⟩ := hbss.form
    have hll : l.length ≤ 274877906944 := by
      have h1 := splitB_back hsp
      have h2 := joinP_count l
      rw [← h1, joinB_length] at hlen
      omega
    have hrl : ∀ y ∈ l, y.length ≤ 140737488355328 := fun y hy => by have := joinP_mem_le hsp y hy; omega
    have HROWS := Lib.hid ((hbss.read hrl).subs (T := fun b => b < w1.heap.size) fun _ _ h => h)
    have HB1 := Lib.hid hb1
    clear hbss hsp hrl HS hb1
    go_wp2_with fail
    go_loopw [5, 6, 7] (fun a o i wr => ∃ (k : Nat) (g : Bool) (css : List (List Value)), k ≤ l.length ∧ i = .int .i64 k ∧ a = .bool (!g) ∧ Own wr 3 1 o k css.flatten ∧ LOut i64 wr (fun _ => False) (l.take k) css false g ∧ Below w1.heap.size w1 wr ∧ (∀ b, o.ownBlock = some b → w1.heap.size ≤ b)) (fun _ _ i _ => l.length - (intOf i).toNat)
    case atStart => exact ⟨0, false, [], Nat.zero_le _, rfl, rfl, Own.empty w1 3 1, LOut.nil_ _ _ _ _, (Below.refl _ w1).alloc (Nat.le_refl _) _, fun b hb => by simp [Value.ownBlock] at hb; omega⟩
    case round =>
      obtain ⟨k, g, css, hk, rfl, rfl, hown, hlo, hbl, hob⟩ := hrel
      by_cases hlt : k < l.length
      · obtain ⟨ba, oa, ua, rfl, hca, hua, _, hSb⟩ := (HROWS.out.below hbl).at_ hlt
        have HR := Lib.hid (rnum_out wr hua)
        obtain ⟨Ay, cy, rfl⟩ := hua.form
        obtain ⟨Ao, co, rfl⟩ := hown.form
        have HOWN := Lib.hid hown
        have HLO := Lib.hid hlo
        have HBL := Lib.hid hbl
        have HOB := Lib.hid hob
        clear hown hlo hbl hob hua
        go_wp2_with fail
        refine HR.out.mono ?_
        rintro e w3 ⟨hw3, m, g1, rfl, hm, hso⟩
        obtain rfl := hw3
        have HSO := Lib.hid hso
        clear hso
        have H63 := Lib.hid (show k + 1 ≤ maxLen ∧ (k + 1) * 8 ≤ 140737488355328 from ⟨by simp only [maxLen]; omega, by omega⟩)
        have HO2 := Lib.hid (show ∀ ob, Own (w3.alloc ob) 3 1 (.slice Ao k co) k css.flatten from fun ob => own_keep HOWN.out fun b hb => Below.heap_alloc w3 ob b (own_lt HOWN.out hb))
        have HS2 := Lib.hid (Cs.of_new w3 3 (size := 1) 1 (cs := [.int .i64 (wrap64 (m : Int))]) rfl (by simp only [maxLen]; decide))
        go_simp
        repeat (first
          | (refine wpList_and g g1 _ _ _ rfl rfl rfl (by cases g <;> rfl) rfl (fun _ => rfl) (fun _ => rfl) ?_; intro vA c hcA; have HCA := Lib.hid hcA; clear hcA)
          | (refine wpList_row1 rfl 29 3 _ rfl Tryz.underlying29 (.int .i64 (wrap64 (m : Int))) rfl [.int .i64 (wrap64 (m : Int))] rfl sizes_int (by simp) (by simp) ?_)
          | (at_builtin; refine wpList_app _ rfl _ _ _ rfl Tryz.underlying29 info_int rfl (by decide) (HO2.out _) rfl HS2.out rfl (fun v hv => by obtain rfl := List.mem_singleton.1 hv; rfl) H63.out.1 H63.out.2 ?_; intro v6 w6 ho6 hc6 hnil6 hat6; clear hnil6; have HO6 := Lib.hid ho6; clear ho6; have HC6 := Lib.hid hc6; clear hc6; have HAT6 := Lib.hid hat6; clear hat6)
          | go_values | go_skip | go_guarded | go_step | go_upon)
        go_wp2_with fail
        have hwz := wrap64_nk (m : Int)
        have hal := (HBL.out.alloc (o := .cells #[.int .i64 (wrap64 (m : Int))] 3) HBL.out.size)
        have hso := HSO.out true w6 (fun _ => False)
        rw [← hwz] at hso
        refine ⟨⟨k + 1, c, css ++ [[.int .i64 (wrap64 (m : Int))]], by omega, by push_cast; rfl, rfl, by rw [List.flatten_append]; simpa using HO6.out, ?_, hal.trans (HC6.out.below hal.size fun b hb => HOB.out b hb), fun b hb => ?_⟩, by simp only [intOf]; omega⟩
        · rw [List.take_succ_eq_append_getElem hlt]
          exact LOut.snoc HLO.out (hso.orr g c HCA.out) (fun _ h => h.elim) fun _ h => h.elim
        · rcases HAT6.out with h | h
          · exact HOB.out b (h ▸ hb)
          · rw [h] at hb; injection hb with hb
            have := HBL.out.size
            simp at hb; omega
      · have hk' : k = l.length := by omega
        subst hk'
        have HOWN := Lib.hid hown
        have HLO := Lib.hid hlo
        have HBL := Lib.hid hbl
        have HOB := Lib.hid hob
        obtain ⟨Ao, co, rfl⟩ := hown.form
        clear hown hlo hbl hob
        go_wp2_with fail
        go_ret2
        have hlo := HLO.out
        rw [List.take_length] at hlo
        have hz := HB1.out.size
        exact ⟨HB1.out.trans (HBL.out.mono HB1.out.size), [_], g, rfl, LOut.list (hlo.to (fun _ h => h.elim) fun _ h => h.elim) HSP.out (Cs.of_own HOWN.out fun b hb => ⟨Nat.le_trans hz (HOB.out b hb), own_th HOWN.out hb⟩)⟩
end
section
open Go.RowKit Go.Maps
section
variable {P : Program} {ops : Array Oper} {rest : List Oper} {op : Oper} {a : Act} {w : World} {Q : Exit → Act → World → Prop}
theorem wpList_store_part (hgd : op.guard = none) (ty : TypeId) (x y : Operand) (ho : op.op = .store ty x y) {B off : Nat} {T : TypeId} {pre old vals post : List Value} (hb : Blk w B T (pre ++ (old ++ post)).toArray) (hoff : pre.length = off) (hx : a.eval x = .pointer (some ⟨B, off, none⟩))
    {v : Value} (hy : a.eval y = v) (hv : v.cells = vals.toArray) (hl : old.length = vals.length) (hi : (P.info? ty).map (·.size) = some vals.length) (h1 : ∀ u ∈ vals, u.oneCell' = true)
    (h : ∀ w', Blk w' B T ((pre ++ vals) ++ post).toArray → Chg (fun b => b = B) w w' → wpList P ops Q rest (a.put op.dst undef) w') : wpList P ops Q (op :: rest) a w := by
  subst hoff
  have ht : w.there B pre.length vals.length := fun j hj => by
    rw [hb.cell]
    exact ⟨by simp; omega, hb.frozen _⟩
  have hrun : (storeVar ty ⟨B, pre.length, none⟩ v).run P w = .ok () (w.setCells B pre.length vals) := by
    have := run_storeCells_cells (P := P) B pre.length vals 0 w (fun j hj => by simpa using (ht j hj).1) (fun j hj => by simpa using (ht j hj).2) (fun v hv => h1 v hv)
    cases hq : P.info? ty with
    | none => simp [hq] at hi
    | some i =>
      have hs : vals.length = i.size := by simp [hq] at hi; omega
      simp only [Nat.add_zero] at this
      simp [storeVar, sizeOf, typeInfo, hq, hv, hs, this]
  refine wpList_plain hgd fun _ hK => ?_
  unfold Oper.wp execOp
  simp only [ho, hx, hy, Instr.storeAt, Instr.sureAddr, Sem.run_bind, Sem.run_pure, Result.andThen_ok, hrun]
  refine hK _ _ (h _ ?_ (Chg.setCells (M := fun b => b = B) (.inl rfl) _ _ _ (Chg.refl _ w)))
  have := Blk.setCells vals pre.length w _ hb (by simp; omega)
  have e : (pre ++ (old ++ post)).take pre.length ++ vals ++ (pre ++ (old ++ post)).drop (pre.length + vals.length) = (pre ++ vals) ++ post := by
    rw [List.take_left' rfl, ← List.drop_drop, List.drop_left' rfl, ← hl, List.drop_left' rfl]
  rwa [e] at this
end
theorem z32_len : z32.length = 32 := rfl
theorem z32_sized {C : List Value} (h : C.length = 32) : (Tryz.prog.info? 36).map (·.size) = some C.length := dig_size h
theorem Bsr.all {w : World} {S : Nat → Prop} {A : Option Addr} {cap : Nat} {rows : List (List UInt8)} (h : Bsr w S (.slice A rows.length cap) rows) (h0 : 0 < rows.length) :
    ∃ ba oa, A = some ⟨ba, oa, none⟩ ∧ S ba ∧ ba < w.heap.size ∧ ∀ i x, rows[i]? = some x → ∃ A' c', w.cell? ⟨ba, oa + i, none⟩ = some (.slice A' x.length c') ∧ Bs w S (.slice A' x.length c') x := by
  obtain ⟨vs, ⟨hl, A0, c0, e, hn, hc, hp⟩, hr⟩ := h
  injection e with e0 _ e2
  subst e0 e2
  obtain ⟨ba, oa, rfl, hS, hlt, hcell⟩ := hp h0
  refine ⟨ba, oa, rfl, hS, hlt, fun i x hx => ?_⟩
  have hi : i < vs.length := by have := (List.getElem?_eq_some_iff.1 hx).1; omega
  have hb := hr i x vs[i] hx (List.getElem?_eq_getElem hi)
  obtain ⟨A', c', e⟩ := hb.form
  have hc2 := hcell i vs[i] (List.getElem?_eq_getElem hi)
  rw [e] at hc2 hb
  exact ⟨A', c', hc2, hb⟩
theorem rnumI_out (w : World) {S : Nat → Prop} {v : Value} {bs : List UInt8} (h : Bs w S v bs) :
    Calls Tryz.prog 46 #[v] w fun e w' => w' = w ∧ ∃ (m : Nat) (g : Bool), e = .returned (.tuple #[.int .u64 m, .bool (!g)]) ∧ m < 18446744073709551616 ∧ (∀ (W : World) (T : Nat → Prop), SOut i64 W T bs [.int .i64 (wrap64 (m : Int))] false g) ∧ ∀ (W : World) (T : Nat → Prop), SOut u64 W T bs [.int .u64 (m : Int)] false g := by
  refine (rnum_out w h).mono ?_
  rintro e w' ⟨hw, m, g, he, hm, hs⟩
  refine ⟨hw, m, g, he, hm, fun W T => ?_, fun W T => ?_⟩
  · have := hs true W T
    rwa [← wrap64_nk] at this
  · have := hs false W T
    rwa [show (nk false).wrap (m : Int) = m from by rw [show nk false = IntKind.u64 from rfl]; exact wrapU _ (by omega) (by omega)] at this
theorem Fs.Out.stepR {s : Sh} {fs : Fs} {w0 w1 w2 : World} {W B : Nat} {b : List UInt8} {l : List (List UInt8)} {c1 c2 : List Value} {bad b1 b2 : Bool} (h : SOut s w1 (Nw w0.heap.size w1) b c1 bad b1) (k : fs.Out w2 (Nw W w2) l c2 b1 b2)
    (hc : Chg (fun k => k = B) w1 w2) (hg : B < w0.heap.size) (hW : W ≤ w0.heap.size) : Fs.Out (.cons s fs) w2 (Nw W w2) (b :: l) (c1 ++ c2) bad b2 := Fs.Out.step h k hc hg hW
end
section
open Go.RowKit Go.Maps
def ReadAns (w : World) (bs : List UInt8) (e : Ending) (w' : World) : Prop :=
  Below w.heap.size w w' ∧ ∃ (vx vy : Value) (n : Int) (is : Bool), e = .returned (.tuple #[vx, .int .i64 n, vy, .bool is]) ∧
    ((262144 < bs.length ∧ n = 4) ∨ (bs.length ≤ 262144 ∧ ((n = 0 ∧ is = true ∧ Bs w' (fun b => w.heap.size ≤ b) vx bs ∧ Bs w' (fun b => w.heap.size ≤ b) vy bs) ∨ (n = 5 ∧ is = false))))
theorem results_tmp4 {fn : Func} {t u v x : Tmp} (h : fn.results = #[.tmp t, .tmp u, .tmp v, .tmp x]) (tmps : Array Value) (P : Program) (w : World) :
    (results fn tmps).run P w = .ok (.tuple #[tmps.getD t undef, tmps.getD u undef, tmps.getD v undef, tmps.getD x undef]) w := by
  simp [results, h]
mutual
def Sh.zel : (s : Sh) → s.El
  | .num _ => (0 : Int)
  | .dig => List.replicate 32 (0 : UInt8)
  | .byt => ([] : List UInt8)
  | .bool => false
  | .list s => ([] : List s.El)
  | .tup fs => fs.zel
def Fs.zel : (fs : Fs) → fs.El
  | .nil => ()
  | .cons s fs => (s.zel, fs.zel)
end
mutual
def Sh.zcs : Sh → List Value
  | .num sg => [.int (nk sg) 0]
  | .dig => z32
  | .byt => [.slice none 0 0]
  | .bool => [.bool false]
  | .list _ => [.slice none 0 0]
  | .tup fs => fs.zcs
def Fs.zcs : Fs → List Value
  | .nil => []
  | .cons s fs => s.zcs ++ fs.zcs
end
mutual
def Sh.zlen : Sh → Nat
  | .num _ => 8
  | .dig => 32
  | .byt => 0
  | .bool => 1
  | .list _ => 8
  | .tup fs => 8 + fs.zlen
def Fs.zlen : Fs → Nat
  | .nil => 0
  | .cons s fs => 8 + s.zlen + fs.zlen
end
mutual
theorem Sh.zel_rep (w : World) (S : Nat → Prop) : ∀ s : Sh, s.rep w S s.zel s.zcs
  | .num sg => ⟨rfl, by cases sg <;> decide⟩
  | .dig => ⟨rfl, rfl⟩
  | .byt => ⟨_, rfl, Bs.nil_ _ _⟩
  | .bool => rfl
  | .list _ => ⟨_, [], rfl, Cs.nil_ _ _ _, .nil⟩
  | .tup fs => Fs.zel_rep w S fs
theorem Fs.zel_rep (w : World) (S : Nat → Prop) : ∀ fs : Fs, fs.rep w S fs.zel fs.zcs
  | .nil => rfl
  | .cons s fs => ⟨_, _, rfl, Sh.zel_rep w S s, Fs.zel_rep w S fs⟩
end
mutual
theorem Sh.zel_len : ∀ s : Sh, (s.enc s.zel).length = s.zlen
  | .num _ => numB_length 0
  | .dig => rfl
  | .byt => rfl
  | .bool => rfl
  | .list _ => rfl
  | .tup fs => by
    show (joinB (fs.encs fs.zel)).length = 8 + fs.zlen
    rw [joinB_length, Fs.zel_len fs]
theorem Fs.zel_len : ∀ fs : Fs, (joinP (fs.encs fs.zel)).length = fs.zlen
  | .nil => rfl
  | .cons s fs => by
    show (joinP (s.enc s.zel :: fs.encs fs.zel)).length = 8 + s.zlen + fs.zlen
    simp only [joinP, List.length_append, be8_length]
    rw [Fs.zel_len fs, Sh.zel_len s]
    omega
end
end
section
open Go.RowKit Go.Maps
attribute [-simp] Tryz.isAgg36 Tryz.typeInfo36 Tryz.isAgg38 Tryz.typeInfo38
theorem info_readHeader : (Tryz.prog.info? 38).map (fun i => (i.zero.map (fun z => z.cells.size))) = some (some 101) := by kernel_rfl
theorem size_readHeader : (Tryz.prog.info? 38).map (·.size) = some 101 := by kernel_rfl
theorem places_readHeader : ((match Tryz.prog.underlying 38 with | some (.struct fields) => fields.toList.mapM (fun f => (Tryz.prog.info? f.type).map fun i => (f.offset, i.size)) | _ => none)) = some [(0, 1), (1, 1), (2, 1), (3, 1), (4, 32), (36, 32), (68, 32), (100, 1)] := by kernel_rfl
set_option maxHeartbeats 4000000 in
set_option maxRecDepth 100000 in
theorem readHeader_any (w : World) {S : Nat → Prop} {v sent : Value} {bs : List UInt8} (h : Bs w S v bs) (hlen : bs.length ≤ 262144) (hg : Gl w sent) :
    Calls Tryz.prog 44 #[v] w (ReadOut (.tup (.cons i64 (.cons i64 (.cons i64 (.cons i64 (.cons .dig (.cons .dig (.cons .dig (.cons i64 .nil))))))))) w sent bs) := by
  have hal := (Below.refl w.heap.size w).alloc (Nat.le_refl _) (.cells (([.int .i64 0, .int .i64 0, .int .i64 0, .int .i64 0] ++ List.replicate 96 (.int .u8 0) ++ [.int .i64 0] : List Value)).toArray 38)
  have HS := Lib.hid (psplit_any _ (h.below hal) (by omega) (hg.below hal) 8 (by omega) ⟨#[97, 32, 104, 101, 97, 100, 101, 114]⟩)
  have HN := Lib.hid (Blk.new w 38 (([.int .i64 0, .int .i64 0, .int .i64 0, .int .i64 0] ++ List.replicate 96 (.int .u8 0) ++ [.int .i64 0] : List Value)).toArray)
  have HAL := Lib.hid hal
  obtain ⟨A, cap, rfl⟩ := h.form
  clear h hg hal
  go_enter Tryz.func44, Tryz.ntmps44
  go_wp2_with fail
  refine HS.out.mono ?_
  rintro e w1 ⟨g, rows, bad, rfl, hgw, hb1, hp, hn, hrl, hs⟩
  obtain ⟨r0, r1, r2, r3, r4, r5, r6, r7, rfl⟩ : ∃ r0 r1 r2 r3 r4 r5 r6 r7, rows = [r0, r1, r2, r3, r4, r5, r6, r7] := by
    match rows, hn with
    | [r0, r1, r2, r3, r4, r5, r6, r7], _ => exact ⟨r0, r1, r2, r3, r4, r5, r6, r7, rfl⟩
  have HK := Lib.hid (HN.out.below hb1 (by simp))
  have hgw' : w.heap.size + 1 ≤ g := by simpa using hgw
  have hz1 : w.heap.size + 1 ≤ w1.heap.size := by simpa using hb1.size
  have HB1 := Lib.hid (HAL.out.trans (hb1.mono (by simp)))
  have HSS := Lib.hid hs
  have HRL := Lib.hid (show ∀ x ∈ [r0, r1, r2, r3, r4, r5, r6, r7], x.length ≤ 262144 from fun x hx => Nat.le_trans (hrl x hx) hlen)
  have hE : Pt w1 (fun b => b = g) (w.heap.size + 1) g sent [r0, r1, r2, r3, r4, r5, r6, r7] bad := by simpa using hp
  clear HS HN HAL hgw hb1 hs hn hp hrl hlen
  have hp0 := hE
  clear hE
  go_wp2_with fail
  refine (int_any _ hp0).mono ?_
  rintro e w2 ht
  obtain ⟨y0, b0, rfl, h10, hc0, hp1, ho0⟩ := ht.one (fun _ => rfl) rfl
  have hgl0 := hp0.lt
  have hz2 := Nat.le_trans hz1 hc0.size
  have HO0 := Lib.hid ho0
  have HC0 := Lib.hid hc0
  have H10 := Lib.hid h10
  clear ht ho0 hc0 h10 hp0
  go_wp2_with fail
  refine (int_any _ hp1).mono ?_
  rintro e w3 ht
  obtain ⟨y1, b1, rfl, h11, hc1, hp2, ho1⟩ := ht.one (fun _ => rfl) rfl
  have hgl1 := hp1.lt
  have hz3 := Nat.le_trans hz2 hc1.size
  have HO1 := Lib.hid ho1
  have HC1 := Lib.hid hc1
  have H11 := Lib.hid h11
  clear ht ho1 hc1 h11 hp1
  go_wp2_with fail
  refine (n_any _ hp2).mono ?_
  rintro e w4 ht
  obtain ⟨y2, b2, rfl, h12, hc2, hp3, ho2⟩ := ht.one (fun _ => rfl) rfl
  have hgl2 := hp2.lt
  have hz4 := Nat.le_trans hz3 hc2.size
  have HO2 := Lib.hid ho2
  have HC2 := Lib.hid hc2
  have H12 := Lib.hid h12
  clear ht ho2 hc2 h12 hp2
  go_wp2_with fail
  refine (n_any _ hp3).mono ?_
  rintro e w5 ht
  obtain ⟨y3, b3, rfl, h13, hc3, hp4, ho3⟩ := ht.one (fun _ => rfl) rfl
  have hgl3 := hp3.lt
  have hz5 := Nat.le_trans hz4 hc3.size
  have HO3 := Lib.hid ho3
  have HC3 := Lib.hid hc3
  have H13 := Lib.hid h13
  clear ht ho3 hc3 h13 hp3
  go_wp2_with fail
  refine (pdigest_any _ hp4).mono ?_
  rintro e w6 ht
  obtain ⟨c4, b4, rfl, h14, hl4, hc4, hp5, ho4⟩ := ht.agg (fun _ => rfl)
  have hl4 : c4.length = 32 := hl4
  have hgl4 := hp4.lt
  have hz6 := Nat.le_trans hz5 hc4.size
  have HO4 := Lib.hid ho4
  have HC4 := Lib.hid hc4
  have H14 := Lib.hid h14
  have HL4 := Lib.hid hl4
  clear hl4
  clear ht ho4 hc4 h14 hp4
  go_wp2_with fail
  refine (pdigest_any _ hp5).mono ?_
  rintro e w7 ht
  obtain ⟨c5, b5, rfl, h15, hl5, hc5, hp6, ho5⟩ := ht.agg (fun _ => rfl)
  have hl5 : c5.length = 32 := hl5
  have hgl5 := hp5.lt
  have hz7 := Nat.le_trans hz6 hc5.size
  have HO5 := Lib.hid ho5
  have HC5 := Lib.hid hc5
  have H15 := Lib.hid h15
  have HL5 := Lib.hid hl5
  clear hl5
  clear ht ho5 hc5 h15 hp5
  go_wp2_with fail
  refine (pdigest_any _ hp6).mono ?_
  rintro e w8 ht
  obtain ⟨c6, b6, rfl, h16, hl6, hc6, hp7, ho6⟩ := ht.agg (fun _ => rfl)
  have hl6 : c6.length = 32 := hl6
  have hgl6 := hp6.lt
  have hz8 := Nat.le_trans hz7 hc6.size
  have HO6 := Lib.hid ho6
  have HC6 := Lib.hid hc6
  have H16 := Lib.hid h16
  have HL6 := Lib.hid hl6
  clear hl6
  clear ht ho6 hc6 h16 hp6
  go_wp2_with fail
  refine (int_any _ hp7).mono ?_
  rintro e w9 ht
  obtain ⟨y7, b7, rfl, h17, hc7, hp8, ho7⟩ := ht.one (fun _ => rfl) rfl
  have hgl7 := hp7.lt
  have hz9 := Nat.le_trans hz8 hc7.size
  have HO7 := Lib.hid ho7
  have HC7 := Lib.hid hc7
  have H17 := Lib.hid h17
  clear ht ho7 hc7 h17 hp7
  have hbu := run_struct (P := Tryz.prog) (vs := [y0, y1, y2, y3, .agg c4.toArray, .agg c5.toArray, .agg c6.toArray, y7]) (cs := [[y0], [y1], [y2], [y3], c4, c5, c6, [y7]]) info_readHeader places_readHeader ⟨cells_one H10.out, cells_one H11.out, cells_one H12.out, cells_one H13.out, rfl, rfl, rfl, cells_one H17.out, trivial⟩ (by simp [PlaceOk, HL4.out, HL5.out, HL6.out]) (by simp [HL4.out, HL5.out, HL6.out]) #[(0, y0), (1, y1), (2, y2), (3, y3), (4, .agg c4.toArray), (5, .agg c5.toArray), (6, .agg c6.toArray), (7, y7)] rfl
  have hone : ∀ v ∈ [[y0], [y1], [y2], [y3], c4, c5, c6, [y7]].flatten, v.oneCell' = true := by
    intro v hv
    simp only [List.flatten_cons, List.flatten_nil, List.mem_append, List.mem_singleton, List.not_mem_nil, or_false] at hv
    rcases hv with rfl | rfl | rfl | rfl | hv | hv | hv | rfl
    · exact H10.out
    · exact H11.out
    · exact H12.out
    · exact H13.out
    · exact H14.out v hv
    · exact H15.out v hv
    · exact H16.out v hv
    · exact H17.out
  have HOUT := Lib.hid (show Fs.Out (.cons i64 (.cons i64 (.cons i64 (.cons i64 (.cons .dig (.cons .dig (.cons .dig (.cons i64 .nil)))))))) w9 (Nw (w.heap.size + 1) w9) [r0, r1, r2, r3, r4, r5, r6, r7] [[y0], [y1], [y2], [y3], c4, c5, c6, [y7]].flatten bad b7 from by
    have := Fs.Out.step HO0.out (Fs.Out.step HO1.out (Fs.Out.step HO2.out (Fs.Out.step HO3.out (Fs.Out.step HO4.out (Fs.Out.step HO5.out (Fs.Out.step HO6.out (Fs.Out.step HO7.out (Fs.Out.nil_ w9 _ _) (Chg.refl _ _) hgl7 hz8) HC7.out hgl6 hz7) (HC6.out.trans HC7.out fun b h => .inl h) hgl5 hz6) ((HC5.out.trans HC6.out fun b h => .inl h).trans HC7.out fun b h => .inl h) hgl4 hz5) (((HC4.out.trans HC5.out fun b h => .inl h).trans HC6.out fun b h => .inl h).trans HC7.out fun b h => .inl h) hgl3 hz4) ((((HC3.out.trans HC4.out fun b h => .inl h).trans HC5.out fun b h => .inl h).trans HC6.out fun b h => .inl h).trans HC7.out fun b h => .inl h) hgl2 hz3) (((((HC2.out.trans HC3.out fun b h => .inl h).trans HC4.out fun b h => .inl h).trans HC5.out fun b h => .inl h).trans HC6.out fun b h => .inl h).trans HC7.out fun b h => .inl h) hgl1 hz2) ((((((HC1.out.trans HC2.out fun b h => .inl h).trans HC3.out fun b h => .inl h).trans HC4.out fun b h => .inl h).trans HC5.out fun b h => .inl h).trans HC6.out fun b h => .inl h).trans HC7.out fun b h => .inl h) hgl0 hz1
    simpa using this)
  have HCA := Lib.hid (show Chg (fun k => k = g) w1 w9 from (((((((HC0.out.trans HC1.out fun b h => .inl h).trans HC2.out fun b h => .inl h).trans HC3.out fun b h => .inl h).trans HC4.out fun b h => .inl h).trans HC5.out fun b h => .inl h).trans HC6.out fun b h => .inl h).trans HC7.out fun b h => .inl h))
  have hcl : [[y0], [y1], [y2], [y3], c4, c5, c6, [y7]].flatten.length = 101 := by simp [HL4.out, HL5.out, HL6.out]
  obtain ⟨C, hC⟩ : ∃ C, C = [[y0], [y1], [y2], [y3], c4, c5, c6, [y7]].flatten := ⟨_, rfl⟩
  rw [← hC] at hbu hone hcl HOUT
  have HBU := Lib.hid hbu
  have HONE := Lib.hid hone
  have HCL := Lib.hid hcl
  have HI := Lib.hid (show (Tryz.prog.info? 38).map (·.size) = some C.length from by rw [hcl]; exact size_readHeader)
  have HK2 := Lib.hid (HK.out.chg HCA.out (show ¬ w.heap.size = g from by omega))
  clear hbu hone hcl hC HK HO0 HC0 H10 HO1 HC1 H11 HO2 HC2 H12 HO3 HC3 H13 HO4 HC4 H14 HO5 HC5 H15 HO6 HC6 H16 HO7 HC7 H17 HL4 HL5 HL6
  have HP := Lib.hid hp8
  have hgX := hp8.lt
  clear hp8
  have hbu := HBU.out w9
  have HX := Lib.hid (HP.out.parts)
  go_wp2_with (first | (refine wpList_build_ rfl 38 _ rfl #[(0, y0), (1, y1), (2, y2), (3, y3), (4, .agg c4.toArray), (5, .agg c5.toArray), (6, .agg c6.toArray), (7, y7)] (by simp [Act.eval]) _ hbu ?_) | (refine wpList_store_blk (cs0 := ([.int .i64 0, .int .i64 0, .int .i64 0, .int .i64 0] ++ List.replicate 96 (.int .u8 0) ++ [.int .i64 0] : List Value)) (cs := C) rfl 38 _ _ rfl (Blk.new w9 _ _) rfl rfl (by rw [HCL.out]; rfl) HI.out HONE.out ?_; intro wx hbx hcx; have HBX := Lib.hid hbx; have HCX := Lib.hid hcx; clear hbx hcx))
  obtain ⟨vy, ey, hblk, herr⟩ := HX.out
  have HCX' := Lib.hid (show Chg (fun _ => False) w9 wx from ((Chg.refl _ w9).alloc _).trans HCX.out fun b h => .inr (Nat.le_of_eq h.symm))
  have HGX := Lib.hid (hblk.chg HCX'.out id)
  have HKX := Lib.hid (HK2.out.chg HCX'.out id)
  have HE := Lib.hid herr
  clear hbu hblk herr HX HBU
  refine wp_region_hoist [0, 1, 2, 3, 4] [5] [6] (fun w' => Blk w' w9.heap.size 38 C.toArray ∧ Blk w' g 168 #[vy, ey])
    (by kernel_rfl) (by kernel_rfl) (by kernel_rfl) (by kernel_rfl) (by kernel_rfl) (by kernel_rfl) ⟨HBX.out.drew, HGX.out.drew⟩ ?_
  (refine HoistK.load (by rfl) (by kernel_rfl) 38 _ rfl w9.heap.size 0 rfl C _ (fun w' hw => hw.1.range) Tryz.underlying38 rfl HI.out ?_; simp only [Act.put, setIfInBounds_toArray, getElem_toArray, getElem_cons_zero, set_cons_succ, set_cons_zero])
  iterate 3 (refine HoistK.yes (by rfl) (by kernel_rfl) ⟨?_, fun w' hSw => ?_, ?_⟩; rotate_left; (· go_simp; try with_reducible rfl); simp only [Act.put, setIfInBounds_toArray, getElem_toArray, getElem_cons_succ, getElem_cons_zero, set_cons_succ, set_cons_zero])
  (refine HoistK.yes (by rfl) (by kernel_rfl) ⟨?_, fun w' hSw => ?_, ?_⟩; rotate_left; (· have hcc := hSw.2.cell; go_simp; try with_reducible rfl); simp only [Act.put, setIfInBounds_toArray, getElem_toArray, getElem_cons_succ, getElem_cons_zero, set_cons_succ, set_cons_zero])
  refine HoistK.nil_ ?_
  simp only [opsAt, filterMap_cons, filterMap_nil, getElem?_toArray, getElem?_cons_succ, getElem?_cons_zero]
  refine Effects.cons_ fun _ hQ1 => ?_
  go_wp2_with (refine wpList_store_blk (cs0 := ([.int .i64 0, .int .i64 0, .int .i64 0, .int .i64 0] ++ List.replicate 96 (.int .u8 0) ++ [.int .i64 0] : List Value)) (cs := C) rfl 38 _ _ rfl HKX.out.drew rfl rfl (by rw [HCL.out]; rfl) HI.out HONE.out ?_; intro wy hby hcy; have HBY := Lib.hid hby; have HCY := Lib.hid hcy; clear hby hcy)
  refine hQ1 _ _ ⟨HBX.out.drew.chg HCY.out (fun h => by omega), HGX.out.drew.chg HCY.out (fun h => by omega)⟩ (Effects.nil_ fun _ hQ2 => ?_)
  go_wp2
  have hld := run_loadVar_mid (P := Tryz.prog) wy w.heap.size 0 38 C _ HBY.out.range Tryz.underlying38 rfl HI.out
  refine bodyPost_ret (v := .tuple #[.agg C.toArray, ey]) (by simp [results, Tryz.results44, asAddr, hld]) rfl ?_
  have hcf : Chg (fun b => b = w.heap.size) w9 wy := ((HCX'.out.mono fun _ h => h.elim).drew).trans HCY.out fun b h => .inl h
  exact ReadOut.mk (n := 8) HOUT.out HSS.out rfl HE.out (HB1.out.trans (HCA.out.below HB1.out.size fun b h => by omega)) hcf
end
section
open Go.RowKit Go.Maps
attribute [-simp] Tryz.isAgg36 Tryz.typeInfo36 Tryz.isAgg38 Tryz.typeInfo38
def zFHeader : List Value := ([.int .i64 0, .int .i64 0, .int .i64 0, .int .i64 0] ++ List.replicate 96 (.int .u8 0) ++ [.int .i64 0] : List Value)
set_option maxRecDepth 100000 in
theorem one_faceHeader : ∀ v ∈ zFHeader, v.oneCell' = true := by decide
set_option maxRecDepth 100000 in
theorem len_faceHeader : zFHeader.length = 101 := by decide
theorem size_faceHeader : (Tryz.prog.info? 38).map (·.size) = some zFHeader.length := by kernel_rfl
set_option maxHeartbeats 8000000 in
set_option maxRecDepth 100000 in
theorem faceHeader_any (w : World) {S : Nat → Prop} {v sent : Value} {bs : List UInt8} (h : Bs w S v bs) (hp : Pk w sent) :
    Calls Tryz.prog 43 #[v, .func (Fn.func 44) #[] #[]] w (FaceOutN tHeader zFHeader w bs) := by
  obtain ⟨A, cap, rfl⟩ := h.form
  have hal1 := (Below.refl w.heap.size w).alloc (Nat.le_refl _) (.cells (zFHeader).toArray 38)
  have hal2 := hal1.alloc (by simp) (.cells (zFHeader).toArray 38)
  have hr0 := (Blk.new w 38 (zFHeader).toArray).alloc (.cells (zFHeader).toArray 38)
  have hz0 := Blk.new (w.alloc (.cells (zFHeader).toArray 38)) 38 (zFHeader).toArray
  rw [show (w.alloc (.cells (zFHeader).toArray 38)).heap.size = w.heap.size + 1 by simp] at hz0
  by_cases hbig : 262144 < bs.length
  · obtain ⟨sb, hsb⟩ : ∃ sb, w.cell? ⟨0, 0, none⟩ = some (.iface 237 (.pointer (some sb))) := by
      obtain ⟨_, _, b, _, _, _, _, _, _, _, _, h, _⟩ := hp
      exact ⟨b, h⟩
    have hgb : ∀ {W : World}, Below w.heap.size w W → W.cell? ⟨0, 0, none⟩ = some (.iface 237 (.pointer (some sb))) := fun hb => cell_low hsb hb
    clear h
    go_enter Tryz.func43, Tryz.ntmps43
    go_wp2_with fail
    have hb := hal2.drew
    have hr : Blk _ _ _ _ := hr0.drew
    have hz : Blk _ _ _ _ := hz0.drew
    clear hal1 hal2 hz0 hsb
    refine wp_region_hoist [0, 1, 2] [3, 4, 5] [6, 7] (fun w' => Blk w' (w.heap.size + 1) 38 (zFHeader).toArray ∧ w'.cell? ⟨0, 0, none⟩ = some (.iface 237 (.pointer (some sb)))) (by kernel_rfl) (by kernel_rfl) (by kernel_rfl) (by kernel_rfl) (by kernel_rfl) (by kernel_rfl) ⟨hz, hgb hb⟩ ?_
    (refine HoistK.load (by rfl) (by kernel_rfl) 38 _ rfl (w.heap.size + 1) 0 rfl zFHeader _ (fun w' hw => hw.1.range) Tryz.underlying38 rfl size_faceHeader ?_; simp only [Act.put, setIfInBounds_toArray, getElem_toArray, getElem_cons_zero, set_cons_succ, set_cons_zero])
    (refine HoistK.yes (by rfl) (by kernel_rfl) ⟨?_, fun w' hSw => ?_, ?_⟩; rotate_left; (· have hcc := hSw.2; go_simp; try with_reducible rfl); simp only [Act.put, setIfInBounds_toArray, getElem_toArray, getElem_cons_succ, getElem_cons_zero, set_cons_succ, set_cons_zero])
    (refine HoistK.yes (by rfl) (by kernel_rfl) ⟨?_, fun w' hSw => ?_, ?_⟩; rotate_left; (· go_simp; try with_reducible rfl); simp only [Act.put, setIfInBounds_toArray, getElem_toArray, getElem_cons_succ, getElem_cons_zero, set_cons_succ, set_cons_zero])
    refine HoistK.nil_ ?_
    simp only [opsAt, filterMap_cons, filterMap_nil, getElem?_toArray, getElem?_cons_succ, getElem?_cons_zero]
    refine Effects.world (F := fun W => Below w.heap.size w W ∧ Blk W w.heap.size 38 (zFHeader).toArray ∧ Blk W (w.heap.size + 1) 38 (zFHeader).toArray) (fun W hF => ?_) ⟨hb, hr, hz⟩
    clear hb hr hz hr0
    obtain ⟨hb, hr, hz⟩ := hF
    refine Effects.cons_ fun _ hQ => ?_
    have hzl := hz.lt
    go_wp2_with fail
    have hk := Blk.new W 158 #[.string ⟨#[97, 108, 108]⟩, .iface 237 (.pointer (some sb))]
    replace hb := hb.alloc hb.size (.cells #[.string ⟨#[97, 108, 108]⟩, .iface 237 (.pointer (some sb))] 158)
    replace hr := hr.alloc (.cells #[.string ⟨#[97, 108, 108]⟩, .iface 237 (.pointer (some sb))] 158)
    replace hz := hz.alloc (.cells #[.string ⟨#[97, 108, 108]⟩, .iface 237 (.pointer (some sb))] 158)
    obtain ⟨gg, hgg⟩ : ∃ gg, gg = W.heap.size := ⟨_, rfl⟩
    have hgn : gg ≠ w.heap.size := by omega
    rw [← hgg] at hk ⊢
    have HGG := Lib.hid hgg; clear hgg
    generalize W.alloc (.cells #[.string ⟨#[97, 108, 108]⟩, .iface 237 (.pointer (some sb))] 158) = W1 at *
    refine hQ _ _ ⟨hz, hgb hb⟩ (Effects.cons_ fun _ hQ => ?_)
    go_wp2_with fail
    refine hQ _ _ ⟨hz, hgb hb⟩ (Effects.cons_ fun _ hQ => ?_)
    go_wp2_with fail
    refine (told_any (r := true) _ (hp.below hb) ⟨gg, 1, _, rfl, .more hk .last, hgb hb⟩).mono ?_
    rintro e W2 ⟨rfl, hb2⟩
    replace hb := hb.trans (hb2.mono hb.size)
    replace hr := hr.below hb2 hr.lt
    replace hz := hz.below hb2 hz.lt
    replace hk := hk.below hb2 hk.lt
    go_wp2_with fail
    refine hQ _ _ ⟨hz, hgb hb⟩ (Effects.nil_ fun _ hQ => ?_)
    refine wpList_store_blk (cs0 := zFHeader) (cs := zFHeader) rfl 38 _ _ rfl hr rfl rfl rfl size_faceHeader one_faceHeader ?_
    intro W3 hr3 hc3
    go_wp2_with fail
    replace hb := hb.trans (hc3.below hb.size fun b h => Nat.le_of_eq h.symm)
    have hld := run_loadVar_mid (P := Tryz.prog) _ w.heap.size 0 38 zFHeader _ hr3.range Tryz.underlying38 rfl size_faceHeader
    exact bodyPost_ret (v := .tuple #[.agg (zFHeader).toArray, .int .i64 4]) (by simp [results, Tryz.results43, asAddr, hld]) rfl ⟨hb, _, 4, rfl, len_faceHeader, one_faceHeader, .inl ⟨hbig, rfl, rfl⟩⟩
  · have hlen : bs.length ≤ 262144 := by omega
    have HR := Lib.hid (readHeader_any _ (h.below hal2) hlen (hp.1.below hal2))
    have HA := Lib.hid hal2
    have HR0 := Lib.hid hr0
    have HZ0 := Lib.hid hz0
    clear h hal1 hal2 hr0 hz0
    go_enter Tryz.func43, Tryz.ntmps43
    go_wp2_with fail
    refine HR.out.mono ?_
    rintro e w2 hro
    obtain ⟨C, err, bd, rfl, h1, hl, hb2, he, ho⟩ := hro.agg (fun _ => rfl)
    have hl : C.length = 101 := hl
    have HL := Lib.hid hl
    have HI := Lib.hid (show (Tryz.prog.info? 38).map (·.size) = some C.length from by rw [hl]; rw [size_faceHeader, len_faceHeader])
    have H1 := Lib.hid h1
    have HK := Lib.hid (HR0.out.below hb2 HR0.out.lt)
    have HZ := Lib.hid (HZ0.out.below hb2 HZ0.out.lt)
    have hz2 : w.heap.size + 2 ≤ w2.heap.size := by have := hb2.size; simpa using this
    have HB2 := Lib.hid (HA.out.trans (hb2.mono HA.out.size))
    have HO := Lib.hid (show SOut tHeader w2 (Nw (w.heap.size + 2) w2) bs C false bd from ho.nw (fun b _ hlt => ⟨hlt, rfl⟩) (by simp))
    have he := he.to (w' := w2) (S' := fun b => w.heap.size + 2 ≤ b) (fun b _ hlt => ⟨hlt, rfl⟩) fun b hb _ => by simpa using hb
    clear hro h1 hl hb2 ho HR HA HR0 HZ0
    rcases he with ⟨rfl, rfl⟩ | ⟨rfl, hch⟩
    · go_wp2_with (first
        | (refine wpList_store_blk (cs0 := zFHeader) (cs := C) rfl 38 _ _ rfl (Blk.new w2 _ _) rfl rfl (by rw [HL.out]; exact len_faceHeader) HI.out H1.out ?_; intro w3 hb3 hc3; have HB3 := Lib.hid hb3
           have HC3 := Lib.hid (show Chg (fun _ => False) w2 w3 from ((Chg.refl _ w2).alloc _).trans hc3 fun b h => .inr (Nat.le_of_eq h.symm)); clear hb3 hc3
           have HK3 := Lib.hid (HK.out.chg HC3.out id))
        | (refine wpList_load_blk' rfl 38 _ rfl HB3.out rfl Tryz.underlying38 rfl HI.out ?_)
        | (refine wpList_store_blk (cs0 := zFHeader) (cs := C) rfl 38 _ _ rfl HK3.out rfl rfl (by rw [HL.out]; exact len_faceHeader) HI.out H1.out ?_; intro w9 hb9 hc9; have HB9 := Lib.hid hb9; have HC9 := Lib.hid hc9; clear hb9 hc9))
      have hld := run_loadVar_mid (P := Tryz.prog) w9 w.heap.size 0 38 C _ HB9.out.range Tryz.underlying38 rfl HI.out
      refine bodyPost_ret (v := .tuple #[.agg C.toArray, .int .i64 0]) (by simp [results, Tryz.results43, asAddr, hld]) rfl ?_
      obtain ⟨o1, o2, o3⟩ := HO.out
      have hc29 : Chg (fun b => b = w.heap.size) w2 w9 := (HC3.out.mono (M' := fun b => b = w.heap.size) fun _ h => h.elim).trans HC9.out fun b h => .inl h
      refine ⟨HB2.out.trans (hc29.below HB2.out.size fun b h => Nat.le_of_eq h.symm), C, 0, rfl, o1, o2, .inr ⟨hlen, .inl ?_⟩⟩
      rcases o3 with ⟨x, e1, _, e3⟩ | ⟨_, e2⟩
      · exact ⟨x, e1, rfl, Sh.rep_to (fun b hb hlt => ⟨ltle hlt hc29.size, hc29.block b hlt fun e => by have := hb.1; omega⟩) (fun b hb hlt => hb.to (by omega) (hc29.block b hlt fun e => by have := hb.1; omega)) _ _ _ e3⟩
      · cases e2
    · obtain ⟨gw, rfl⟩ := hch.form
      have HCH := Lib.hid hch; clear hch
      have hno : Sh.dec tHeader bs = none := by
        obtain ⟨_, _, o3⟩ := HO.out
        rcases o3 with ⟨x, _, e2, _⟩ | ⟨e1, _⟩
        · cases e2
        · exact e1
      have HNO := Lib.hid hno; clear hno
      go_wp2_with (refine wpList_store_blk (cs0 := zFHeader) (cs := C) rfl 38 _ _ rfl (Blk.new w2 _ _) rfl rfl (by rw [HL.out]; exact len_faceHeader) HI.out H1.out ?_; intro w3 hb3 hc3; have HC3 := Lib.hid (show Chg (fun _ => False) w2 w3 from ((Chg.refl _ w2).alloc _).trans hc3 fun b h => .inr (Nat.le_of_eq h.symm)); clear hb3 hc3)
      have hr : Blk _ _ _ _ := (HK.out.chg HC3.out id).drew
      have hz : Blk _ _ _ _ := (HZ.out.chg HC3.out id).drew
      have hb := (HB2.out.trans (HC3.out.below HB2.out.size fun b h => h.elim)).drew
      have hch3 := HCH.out.to (w' := w3.drew) (S' := fun b => w.heap.size + 2 ≤ b) (fun b hb hlt => ⟨ltle hlt HC3.out.size, HC3.out.block b hlt id⟩) fun b hb _ => hb
      have hz3 : w.heap.size + 2 ≤ w3.drew.heap.size := Nat.le_trans hz2 HC3.out.size
      refine wp_region_hoist [0, 1] [2] [3, 4] (fun w' => Blk w' (w.heap.size + 1) 38 (zFHeader).toArray) (by kernel_rfl) (by kernel_rfl) (by kernel_rfl) (by kernel_rfl) (by kernel_rfl) (by kernel_rfl) hz ?_
      (refine HoistK.load (by rfl) (by kernel_rfl) 38 _ rfl (w.heap.size + 1) 0 rfl zFHeader _ (fun w' hw => hw.range) Tryz.underlying38 rfl size_faceHeader ?_; simp only [Act.put, setIfInBounds_toArray, getElem_toArray, getElem_cons_zero, set_cons_succ, set_cons_zero])
      (refine HoistK.yes (by rfl) (by kernel_rfl) ⟨?_, fun w' hSw => ?_, ?_⟩; rotate_left; (· go_simp; try with_reducible rfl); simp only [Act.put, setIfInBounds_toArray, getElem_toArray, getElem_cons_succ, getElem_cons_zero, set_cons_succ, set_cons_zero])
      refine HoistK.nil_ ?_
      simp only [opsAt, filterMap_cons, filterMap_nil, getElem?_toArray, getElem?_cons_succ, getElem?_cons_zero]
      refine Effects.world (F := fun W => Below w.heap.size w W ∧ Blk W w.heap.size 38 (zFHeader).toArray ∧ Blk W (w.heap.size + 1) 38 (zFHeader).toArray ∧ Chain W (fun b => w.heap.size + 2 ≤ b) sent (.iface 154 (.pointer (some ⟨gw, 0, none⟩)))) (fun W hF => ?_) ⟨hb, hr, hz, hch3⟩
      clear hb hr hz hch3 hz3
      obtain ⟨hb, hr, hz, hch⟩ := hF
      refine Effects.cons_ fun _ hQ => ?_
      go_wp2_with fail
      refine (told_any (r := false) _ (hp.below hb) (Wr.of_chain hch)).mono ?_
      rintro e W2 ⟨rfl, hb2⟩
      replace hb := hb.trans (hb2.mono hb.size)
      replace hr := hr.below hb2 hr.lt
      replace hz := hz.below hb2 hz.lt
      go_wp2_with fail
      refine hQ _ _ hz (Effects.nil_ fun _ hQ => ?_)
      refine wpList_store_blk (cs0 := zFHeader) (cs := zFHeader) rfl 38 _ _ rfl hr rfl rfl rfl size_faceHeader one_faceHeader ?_
      intro W3 hr3 hc3
      go_wp2_with fail
      replace hb := hb.trans (hc3.below hb.size fun b h => Nat.le_of_eq h.symm)
      have hld := run_loadVar_mid (P := Tryz.prog) _ w.heap.size 0 38 zFHeader _ hr3.range Tryz.underlying38 rfl size_faceHeader
      exact bodyPost_ret (v := .tuple #[.agg (zFHeader).toArray, .int .i64 5]) (by simp [results, Tryz.results43, asAddr, hld]) rfl ⟨hb, _, 5, rfl, len_faceHeader, one_faceHeader, .inr ⟨hlen, .inr ⟨HNO.out, rfl, rfl⟩⟩⟩
set_option maxHeartbeats 4000000 in
set_option maxRecDepth 100000 in
theorem ReadHeader_anyN (w : World) {S : Nat → Prop} {v sent : Value} {bs : List UInt8} (h : Bs w S v bs) (hp : Pk w sent) :
    Calls Tryz.prog 8 #[v] w (FaceOutN tHeader zFHeader w bs) := by
  have hal1 := (Below.refl w.heap.size w).alloc (Nat.le_refl _) (.cells (zFHeader).toArray 38)
  have HF := Lib.hid (faceHeader_any _ (h.below hal1) (hp.below hal1))
  have HR := Lib.hid (Blk.new w 38 (zFHeader).toArray)
  have HA := Lib.hid hal1
  obtain ⟨A, cap, rfl⟩ := h.form
  clear h hp hal1
  go_enter Tryz.func8, Tryz.ntmps8
  go_wp2_with fail
  refine HF.out.mono ?_
  rintro e w1 ⟨hb, C, n, rfl, hl, h1, hn⟩
  have hl : C.length = 101 := hl
  have HL := Lib.hid hl
  have HI := Lib.hid (show (Tryz.prog.info? 38).map (·.size) = some C.length from by rw [hl]; rw [size_faceHeader, len_faceHeader])
  have H1 := Lib.hid h1
  have hlz : (zFHeader).length = C.length := by rw [hl, len_faceHeader]
  have HLZ := Lib.hid hlz
  have HK := Lib.hid (HR.out.below hb (by simp))
  have HB := Lib.hid hb
  have HN := Lib.hid hn
  have hz1 : w.heap.size + 1 ≤ w1.heap.size := by have := hb.size; simpa using this
  clear hl h1 hlz hb hn HF HR
  go_wp2_with (refine wpList_store_blk (cs0 := zFHeader) (cs := C) rfl 38 _ _ rfl HK.out rfl rfl HLZ.out HI.out H1.out ?_; intro w9 hb9 hc9; have HB9 := Lib.hid hb9; have HC9 := Lib.hid hc9; clear hb9 hc9)
  have hld := run_loadVar_mid (P := Tryz.prog) w9 w.heap.size 0 38 C _ HB9.out.range Tryz.underlying38 rfl HI.out
  refine bodyPost_ret (v := .tuple #[.agg C.toArray, .int .i64 n]) (by simp [results, Tryz.results8, asAddr, hld]) rfl ?_
  have hbw := HA.out.trans (HB.out.mono HA.out.size)
  refine ⟨hbw.trans (HC9.out.below hbw.size fun b h => Nat.le_of_eq h.symm), C, n, rfl, HL.out, H1.out, HN.out.imp id fun ⟨q1, q2⟩ => ⟨q1, q2.imp (fun ⟨x, e1, e2, e3⟩ => ⟨x, e1, e2, ?_⟩) id⟩⟩
  exact Sh.rep_to (fun b hb hlt => ⟨ltle hlt HC9.out.size, HC9.out.block b hlt fun e => by have hb := hb.1; simp at hb; omega⟩) (fun b hb hlt => hb.to (by simp) (HC9.out.block b hlt fun e => by have hb := hb.1; simp at hb; omega)) _ _ _ e3
theorem ReadHeader_any (w : World) {S : Nat → Prop} {v sent : Value} {bs : List UInt8} (h : Bs w S v bs) (hp : Pk w sent) :
    Calls Tryz.prog 8 #[v] w (FaceOut tHeader w bs) :=
  (ReadHeader_anyN w h hp).mono fun _ _ h => h.weak
end
section
open Go.RowKit Go.Maps
attribute [-simp] Tryz.isAgg36 Tryz.typeInfo36
set_option maxHeartbeats 8000000 in
set_option maxRecDepth 100000 in
theorem rHeader_any (w : World) {S : Nat → Prop} {x : tHeader.El} {cs : List Value} (h : tHeader.rep w S x cs) (hl : (tHeader.enc x).length ≤ 1099511627776) :
    Calls Tryz.prog 10 #[.agg cs.toArray] w fun e w' => ∃ v', e = .returned v' ∧ Fresh w w' v' (tHeader.enc x) := by
  obtain ⟨x0, x1, x2, x3, x4, x5, x6, x7, _⟩ := x
  obtain ⟨c0, _, rfl, ⟨rfl, _⟩, c1, _, rfl, ⟨rfl, _⟩, c2, _, rfl, ⟨rfl, _⟩, c3, _, rfl, ⟨rfl, _⟩, c4, _, rfl, ⟨rfl, l4⟩, c5, _, rfl, ⟨rfl, l5⟩, c6, _, rfl, ⟨rfl, l6⟩, c7, _, rfl, ⟨rfl, _⟩, rfl⟩ := h
  simp only [nk_t]
  obtain ⟨C, hC⟩ : ∃ C, C = [Value.int .i64 x0] ++ ([Value.int .i64 x1] ++ ([Value.int .i64 x2] ++ ([Value.int .i64 x3] ++ (u8s x4 ++ (u8s x5 ++ (u8s x6 ++ ([Value.int .i64 x7] ++ ([])))))))) := ⟨_, rfl⟩
  rw [← hC]
  have hf : ∀ w', Blk w' w.heap.size 38 C.toArray → w'.cell? ⟨w.heap.size, 0, none⟩ = some (.int .i64 x0) ∧ w'.cell? ⟨w.heap.size, 1, none⟩ = some (.int .i64 x1) ∧ w'.cell? ⟨w.heap.size, 2, none⟩ = some (.int .i64 x2) ∧ w'.cell? ⟨w.heap.size, 3, none⟩ = some (.int .i64 x3) ∧ w'.rangeAt w.heap.size 4 (u8s x4) ∧ w'.rangeAt w.heap.size 36 (u8s x5) ∧ w'.rangeAt w.heap.size 68 (u8s x6) ∧ w'.cell? ⟨w.heap.size, 100, none⟩ = some (.int .i64 x7) := fun w' hb => by
    have := hb.lies [[Value.int .i64 x0], [Value.int .i64 x1], [Value.int .i64 x2], [Value.int .i64 x3], u8s x4, u8s x5, u8s x6, [Value.int .i64 x7]] [] (by rw [hC]; simp)
    simp only [Lies, u8s_length, l4, l5, l6, List.length_cons, List.length_nil] at this
    obtain ⟨s0, s1, s2, s3, s4, s5, s6, s7, _⟩ := this
    exact ⟨Lies.one s0, Lies.one s1, Lies.one s2, Lies.one s3, s4, s5, s6, Lies.one s7⟩
  have HF := Lib.hid hf
  clear hf hC
  have L4 := Lib.hid l4; clear l4
  have L5 := Lib.hid l5; clear l5
  have L6 := Lib.hid l6; clear l6
  have hl' : (joinB [numB x0, numB x1, numB x2, numB x3, x4, x5, x6, numB x7]).length ≤ 1099511627776 := hl
  have HLL := Lib.hid hl'
  clear hl hl'
  go_enter Tryz.func10, Tryz.ntmps10
  go_wp2_with fail
  have hsz := (Blk.new w 38 C.toArray).lt
  have hb0 : Blk (w.alloc (.cells C.toArray 38)).drew w.heap.size 38 C.toArray := (Blk.new w 38 C.toArray).drew
  have hbw : Below w.heap.size w (w.alloc (.cells C.toArray 38)).drew := ((Below.refl w.heap.size w).alloc (Nat.le_refl _) _).drew
  have D4 := Lib.hid (Bs.of_range32 (S := fun b => b = w.heap.size) rfl hb0.lt ((HF.out _ hb0).2.2.2.2.1) L4.out)
  have D5 := Lib.hid (Bs.of_range32 (S := fun b => b = w.heap.size) rfl hb0.lt ((HF.out _ hb0).2.2.2.2.2.1) L5.out)
  have D6 := Lib.hid (Bs.of_range32 (S := fun b => b = w.heap.size) rfl hb0.lt ((HF.out _ hb0).2.2.2.2.2.2.1) L6.out)
  refine wp_region_hoist [0, 1, 2, 4, 5, 6, 8, 9, 10, 12, 13, 14, 16, 17, 18, 19, 20, 21, 22, 23, 24] [3, 7, 11, 15, 25] [26, 27, 28] (fun w' => Blk w' w.heap.size 38 C.toArray)
    (by kernel_rfl) (by kernel_rfl) (by kernel_rfl) (by kernel_rfl) (by kernel_rfl) (by kernel_rfl) hb0 ?_
  (refine HoistK.yes (by rfl) (by kernel_rfl) ⟨?_, fun w' hSw => ?_, ?_⟩; rotate_left; (· go_simp; try with_reducible rfl); simp only [Act.put, setIfInBounds_toArray, getElem_toArray, getElem_cons_zero, set_cons_succ, set_cons_zero])
  (refine HoistK.yes (by rfl) (by kernel_rfl) ⟨?_, fun w' hSw => ?_, ?_⟩; rotate_left; (· obtain ⟨s0, s1, s2, s3, s4, s5, s6, s7⟩ := HF.out _ hSw; go_simp; try with_reducible rfl); simp only [Act.put, setIfInBounds_toArray, getElem_toArray, getElem_cons_succ, getElem_cons_zero, set_cons_succ, set_cons_zero])
  iterate 2 (refine HoistK.yes (by rfl) (by kernel_rfl) ⟨?_, fun w' hSw => ?_, ?_⟩; rotate_left; (· go_simp; try with_reducible rfl); simp only [Act.put, setIfInBounds_toArray, getElem_toArray, getElem_cons_succ, getElem_cons_zero, set_cons_succ, set_cons_zero])
  (refine HoistK.yes (by rfl) (by kernel_rfl) ⟨?_, fun w' hSw => ?_, ?_⟩; rotate_left; (· obtain ⟨s0, s1, s2, s3, s4, s5, s6, s7⟩ := HF.out _ hSw; go_simp; try with_reducible rfl); simp only [Act.put, setIfInBounds_toArray, getElem_toArray, getElem_cons_succ, getElem_cons_zero, set_cons_succ, set_cons_zero])
  iterate 2 (refine HoistK.yes (by rfl) (by kernel_rfl) ⟨?_, fun w' hSw => ?_, ?_⟩; rotate_left; (· go_simp; try with_reducible rfl); simp only [Act.put, setIfInBounds_toArray, getElem_toArray, getElem_cons_succ, getElem_cons_zero, set_cons_succ, set_cons_zero])
  (refine HoistK.yes (by rfl) (by kernel_rfl) ⟨?_, fun w' hSw => ?_, ?_⟩; rotate_left; (· obtain ⟨s0, s1, s2, s3, s4, s5, s6, s7⟩ := HF.out _ hSw; go_simp; try with_reducible rfl); simp only [Act.put, setIfInBounds_toArray, getElem_toArray, getElem_cons_succ, getElem_cons_zero, set_cons_succ, set_cons_zero])
  iterate 2 (refine HoistK.yes (by rfl) (by kernel_rfl) ⟨?_, fun w' hSw => ?_, ?_⟩; rotate_left; (· go_simp; try with_reducible rfl); simp only [Act.put, setIfInBounds_toArray, getElem_toArray, getElem_cons_succ, getElem_cons_zero, set_cons_succ, set_cons_zero])
  (refine HoistK.yes (by rfl) (by kernel_rfl) ⟨?_, fun w' hSw => ?_, ?_⟩; rotate_left; (· obtain ⟨s0, s1, s2, s3, s4, s5, s6, s7⟩ := HF.out _ hSw; go_simp; try with_reducible rfl); simp only [Act.put, setIfInBounds_toArray, getElem_toArray, getElem_cons_succ, getElem_cons_zero, set_cons_succ, set_cons_zero])
  iterate 8 (refine HoistK.yes (by rfl) (by kernel_rfl) ⟨?_, fun w' hSw => ?_, ?_⟩; rotate_left; (· go_simp; try with_reducible rfl); simp only [Act.put, setIfInBounds_toArray, getElem_toArray, getElem_cons_succ, getElem_cons_zero, set_cons_succ, set_cons_zero])
  (refine HoistK.yes (by rfl) (by kernel_rfl) ⟨?_, fun w' hSw => ?_, ?_⟩; rotate_left; (· obtain ⟨s0, s1, s2, s3, s4, s5, s6, s7⟩ := HF.out _ hSw; go_simp; try with_reducible rfl); simp only [Act.put, setIfInBounds_toArray, getElem_toArray, getElem_cons_succ, getElem_cons_zero, set_cons_succ, set_cons_zero])
  (refine HoistK.yes (by rfl) (by kernel_rfl) ⟨?_, fun w' hSw => ?_, ?_⟩; rotate_left; (· go_simp; try with_reducible rfl); simp only [Act.put, setIfInBounds_toArray, getElem_toArray, getElem_cons_succ, getElem_cons_zero, set_cons_succ, set_cons_zero])
  refine HoistK.nil_ ?_
  simp only [opsAt, filterMap_cons, filterMap_nil, getElem?_toArray, getElem?_cons_succ, getElem?_cons_zero]
  have g0 : Got (w.alloc (.cells C.toArray 38)).drew (w.alloc (.cells C.toArray 38)).drew [] [] := Got.start (Below.refl _ _)
  refine Effects.cons_ fun _ hQ1 => ?_
  go_wp2_with fail
  refine (rNumI_any _ _).mono ?_
  rintro e u1 ⟨v1, rfl, f1⟩
  have g1 := g0.step f1
  have hb1 := hb0.below f1.2 hb0.lt
  clear f1
  go_wp2_with fail
  refine hQ1 _ _ hb1 (Effects.cons_ fun _ hQ2 => ?_)
  clear hQ1 hb0 g0
  go_wp2_with fail
  refine (rNumI_any _ _).mono ?_
  rintro e u2 ⟨v2, rfl, f2⟩
  have g2 := g1.step f2
  have hb2 := hb1.below f2.2 hb1.lt
  clear f2
  go_wp2_with fail
  refine hQ2 _ _ hb2 (Effects.cons_ fun _ hQ3 => ?_)
  clear hQ2 hb1 g1
  go_wp2_with fail
  refine (rNumI_any _ _).mono ?_
  rintro e u3 ⟨v3, rfl, f3⟩
  have g3 := g2.step f3
  have hb3 := hb2.below f3.2 hb2.lt
  clear f3
  go_wp2_with fail
  refine hQ3 _ _ hb3 (Effects.cons_ fun _ hQ4 => ?_)
  clear hQ3 hb2 g2
  go_wp2_with fail
  refine (rNumI_any _ _).mono ?_
  rintro e u4 ⟨v4, rfl, f4⟩
  have g4 := g3.step f4
  have hb4 := hb3.below f4.2 hb3.lt
  clear f4
  go_wp2_with fail
  refine hQ4 _ _ hb4 (Effects.cons_ fun _ hQ5 => ?_)
  clear hQ4 hb3 g3
  have g5 := g4.old D4.out
  clear g4
  have g6 := g5.old D5.out
  clear g5
  have g7 := g6.old D6.out
  clear g6
  go_wp2_with fail
  refine (rNumI_any _ _).mono ?_
  rintro e u5 ⟨v8, rfl, f5⟩
  have g8 := g7.step f5
  have hb5 := hb4.below f5.2 hb4.lt
  clear f5
  go_wp2_with fail
  refine hQ5 _ _ hb5 (Effects.nil_ fun _ hQ6 => ?_)
  clear hQ5 hb4 g7
  have hcs : ∀ v ∈ [v1, v2, v3, v4, (.slice (some ⟨w.heap.size, 4, none⟩) 32 32), (.slice (some ⟨w.heap.size, 36, none⟩) 32 32), (.slice (some ⟨w.heap.size, 68, none⟩) 32 32), v8], v.cells = #[v] := fun v hv => by
    obtain ⟨i, hi, rfl⟩ := List.getElem_of_mem hv
    obtain ⟨y, _, hr⟩ := g8.2.get i hi
    obtain ⟨A, c, e⟩ := hr.form
    have e' : [v1, v2, v3, v4, (.slice (some ⟨w.heap.size, 4, none⟩) 32 32), (.slice (some ⟨w.heap.size, 36, none⟩) 32 32), (.slice (some ⟨w.heap.size, 68, none⟩) 32 32), v8][i] = .slice A y.length c := e
    rw [e']; rfl
  refine wpList_rows rfl 8 _ rfl [v1, v2, v3, v4, (.slice (some ⟨w.heap.size, 4, none⟩) 32 32), (.slice (some ⟨w.heap.size, 36, none⟩) 32 32), (.slice (some ⟨w.heap.size, 68, none⟩) 32 32), v8] rfl (by decide) (by decide) hcs (by simp [Act.eval]) ?_
  have hr : Bsr (u5.alloc (.cells [v1, v2, v3, v4, (.slice (some ⟨w.heap.size, 4, none⟩) 32 32), (.slice (some ⟨w.heap.size, 36, none⟩) 32 32), (.slice (some ⟨w.heap.size, 68, none⟩) 32 32), v8].toArray 22)) (fun b => b < u5.heap.size + 1) (.slice (some ⟨u5.heap.size, 0, none⟩) 8 8) [numB x0, numB x1, numB x2, numB x3, x4, x5, x6, numB x7] := g8.row (by simp [maxLen]) 22
  have hj := rJoin_any _ hr (by have := HLL.out; omega) (fun b hb => by simpa using hb)
  have hbb : Below w.heap.size w (u5.alloc (.cells [v1, v2, v3, v4, (.slice (some ⟨w.heap.size, 4, none⟩) 32 32), (.slice (some ⟨w.heap.size, 36, none⟩) 32 32), (.slice (some ⟨w.heap.size, 68, none⟩) 32 32), v8].toArray 22)) := (hbw.trans (g8.1.mono hbw.size)).alloc (hbw.trans (g8.1.mono hbw.size)).size _
  have HJ := Lib.hid hj
  have HBB := Lib.hid hbb
  clear hj hbb hr g8 hcs
  go_wp2_with fail
  refine HJ.out.mono ?_
  rintro e uz ⟨vz, rfl, fz⟩
  go_wp2_with fail
  go_ret
  exact ⟨vz, rfl, fz.1.sub fun b hb _ => ⟨Nat.le_trans HBB.out.size hb.1, hb.2⟩, HBB.out.trans (fz.2.mono HBB.out.size)⟩
end
section
open Go.RowKit Go.Maps
attribute [-simp] Tryz.isAgg36 Tryz.typeInfo36 Tryz.isAgg38 Tryz.typeInfo38
def zrHeader : List Value := (([.int .i64 0] : List Value) ++ (([.int .i64 0] : List Value) ++ (([.int .i64 0] : List Value) ++ (([.int .i64 0] : List Value) ++ (z32 ++ (z32 ++ (z32 ++ (([.int .i64 0] : List Value) ++ ([] : List Value)))))))))
set_option maxRecDepth 100000 in
theorem zrHeader_one : ∀ v ∈ zrHeader, v.oneCell' = true := by decide
theorem zrHeader_len : zrHeader.length = 101 := by kernel_rfl
theorem zrHeader_size : (Tryz.prog.info? 38).map (·.size) = some zrHeader.length := by kernel_rfl
theorem zrHeader_sizes : (Tryz.prog.info? 38).map (fun i => (i.zero.map (fun z => z.cells.size), i.size)) = some (some 101, 101) := by kernel_rfl
theorem zrHeader_info : (Tryz.prog.info? 38).map (fun i => (i.zero, i.size, i.bytes)) = some (some (.agg zrHeader.toArray), 101, 136) := by kernel_rfl
theorem zrHeader_sized {C : List Value} (h : C.length = 101) : (Tryz.prog.info? 38).map (·.size) = some C.length := by rw [h]; kernel_rfl
set_option maxHeartbeats 8000000 in
set_option maxRecDepth 100000 in
theorem rReadHeader_any (w : World) {S : Nat → Prop} {v : Value} {bs : List UInt8} (h : Bs w S v bs) (hlen : bs.length ≤ 1099511627776) :
    Calls Tryz.prog 9 #[v] w (RefOutZ tHeader zrHeader w bs) := by
  have hal := (Below.refl w.heap.size w).alloc (Nat.le_refl _) (.cells zrHeader.toArray 38)
  have HS := Lib.hid (rsplit_any _ (h.below hal) hlen)
  have HR := Lib.hid (Blk.new w 38 zrHeader.toArray)
  have HAL := Lib.hid hal
  have HLEN := Lib.hid hlen
  obtain ⟨A, cap, rfl⟩ := h.form
  clear h hal hlen
  go_enter Tryz.func9, Tryz.ntmps9
  go_wp2_with fail
  refine HS.out.mono ?_
  rintro e w1 ⟨hb1, hsp⟩
  have HR1 := Lib.hid (HR.out.below hb1 HR.out.lt)
  have HB1 := Lib.hid (HAL.out.trans (hb1.mono HAL.out.size))
  have hz01 : w.heap.size + 1 ≤ w1.heap.size := by have := hb1.size; simpa using this
  clear HR HAL HS hb1
  rcases hsp with ⟨hno, rfl⟩ | ⟨v1, l, hsp, rfl, hbss⟩
  · have HNO := Lib.hid (show Sh.dec tHeader bs = none from by
      show (match splitB bs with | none => none | some l => Fs.decs _ l) = none
      rw [hno])
    have HRR := Lib.hid HR1.out
    have HB0 := Lib.hid HB1.out
    clear hno HR1 HB1
    go_wp2_with (refine wpList_store_blk (cs0 := zrHeader) (cs := zrHeader) rfl 38 _ _ rfl HRR.out rfl rfl rfl zrHeader_size zrHeader_one ?_; intro w9 hb9 hc9; have HB9 := Lib.hid hb9; have HC9 := Lib.hid hc9; clear hb9 hc9)
    have hld := run_loadVar_mid (P := Tryz.prog) w9 w.heap.size 0 38 zrHeader _ HB9.out.range Tryz.underlying38 rfl zrHeader_size
    refine bodyPost_ret (v := .tuple #[.agg (zrHeader).toArray, .bool false]) (by simp [results, Tryz.results9, asAddr, hld]) rfl ?_
    exact ⟨HB0.out.trans (HC9.out.below HB0.out.size fun b h => Nat.le_of_eq h.symm), _, true, rfl, ⟨zrHeader_len, zrHeader_one, .inr ⟨HNO.out, rfl⟩⟩, fun _ => rfl⟩
  by_cases hln : l.length = 8
  rotate_left
  · have HNO := Lib.hid (show Sh.dec tHeader bs = none from by
      show (match splitB bs with | none => none | some l => Fs.decs _ l) = none
      rw [hsp]
      cases hd : Fs.decs (.cons i64 (.cons i64 (.cons i64 (.cons i64 (.cons .dig (.cons .dig (.cons .dig (.cons i64 .nil)))))))) l with
      | none => exact hd
      | some x => exact absurd (Fs.decs_len _ l x hd) hln)
    have HRR := Lib.hid HR1.out
    have HB0 := Lib.hid HB1.out
    obtain ⟨A1, c1, rfl⟩ := hbss.form
    have hlI : ¬ (l.length : Int) = 8 := by omega
    clear hsp HR1 HB1 hbss
    go_wp2_with (refine wpList_store_blk (cs0 := zrHeader) (cs := zrHeader) rfl 38 _ _ rfl HRR.out rfl rfl rfl zrHeader_size zrHeader_one ?_; intro w9 hb9 hc9; have HB9 := Lib.hid hb9; have HC9 := Lib.hid hc9; clear hb9 hc9)
    have hld := run_loadVar_mid (P := Tryz.prog) w9 w.heap.size 0 38 zrHeader _ HB9.out.range Tryz.underlying38 rfl zrHeader_size
    refine bodyPost_ret (v := .tuple #[.agg (zrHeader).toArray, .bool false]) (by simp [results, Tryz.results9, asAddr, hld]) rfl ?_
    exact ⟨HB0.out.trans (HC9.out.below HB0.out.size fun b h => Nat.le_of_eq h.symm), _, true, rfl, ⟨zrHeader_len, zrHeader_one, .inr ⟨HNO.out, rfl⟩⟩, fun _ => rfl⟩
  have HSP := Lib.hid hsp
  have hrl : ∀ y ∈ l, y.length ≤ 1099511627776 := fun y hy => Nat.le_trans (joinP_mem_le hsp y hy) HLEN.out
  obtain ⟨A1, c1, rfl⟩ := hbss.form
  have hall := Bsr.all (hbss.read fun y hy => by have := hrl y hy; omega) (by omega)
  obtain ⟨r0, r1, r2, r3, r4, r5, r6, r7, rfl⟩ : ∃ r0 r1 r2 r3 r4 r5 r6 r7, l = [r0, r1, r2, r3, r4, r5, r6, r7] := by
    match l, hln with
    | [r0, r1, r2, r3, r4, r5, r6, r7], _ => exact ⟨r0, r1, r2, r3, r4, r5, r6, r7, rfl⟩
  have HRL := Lib.hid hrl
  obtain ⟨ba, oa, rfl, _, hba, hall⟩ := hall
  obtain ⟨A_0, c_0, hc_0, hr_0⟩ := hall 0 r0 rfl
  have HC_0 := Lib.hid hc_0
  have HR_0 := Lib.hid (hr_0.sub (T := fun b => b < w1.heap.size) fun _ _ h => h)
  obtain ⟨A_1, c_1, hc_1, hr_1⟩ := hall 1 r1 rfl
  have HC_1 := Lib.hid hc_1
  have HR_1 := Lib.hid (hr_1.sub (T := fun b => b < w1.heap.size) fun _ _ h => h)
  obtain ⟨A_2, c_2, hc_2, hr_2⟩ := hall 2 r2 rfl
  have HC_2 := Lib.hid hc_2
  have HR_2 := Lib.hid (hr_2.sub (T := fun b => b < w1.heap.size) fun _ _ h => h)
  obtain ⟨A_3, c_3, hc_3, hr_3⟩ := hall 3 r3 rfl
  have HC_3 := Lib.hid hc_3
  have HR_3 := Lib.hid (hr_3.sub (T := fun b => b < w1.heap.size) fun _ _ h => h)
  obtain ⟨A_4, c_4, hc_4, hr_4⟩ := hall 4 r4 rfl
  have HC_4 := Lib.hid hc_4
  have HR_4 := Lib.hid (hr_4.sub (T := fun b => b < w1.heap.size) fun _ _ h => h)
  obtain ⟨A_5, c_5, hc_5, hr_5⟩ := hall 5 r5 rfl
  have HC_5 := Lib.hid hc_5
  have HR_5 := Lib.hid (hr_5.sub (T := fun b => b < w1.heap.size) fun _ _ h => h)
  obtain ⟨A_6, c_6, hc_6, hr_6⟩ := hall 6 r6 rfl
  have HC_6 := Lib.hid hc_6
  have HR_6 := Lib.hid (hr_6.sub (T := fun b => b < w1.heap.size) fun _ _ h => h)
  obtain ⟨A_7, c_7, hc_7, hr_7⟩ := hall 7 r7 rfl
  have HC_7 := Lib.hid hc_7
  have HR_7 := Lib.hid (hr_7.sub (T := fun b => b < w1.heap.size) fun _ _ h => h)
  clear hall hbss hsp hrl hln hc_0 hr_0 hc_1 hr_1 hc_2 hr_2 hc_3 hr_3 hc_4 hr_4 hc_5 hr_5 hc_6 hr_6 hc_7 hr_7
  go_wp2_with (refine wpList_store_blk (cs0 := zrHeader) (cs := zrHeader) rfl 38 _ _ rfl (Blk.new w1 _ _) rfl rfl rfl zrHeader_size zrHeader_one ?_; intro w2 hb2 hc2; have HX2 := Lib.hid (show Blk w2 w1.heap.size 38 (([] : List Value) ++ (([.int .i64 0] : List Value) ++ (([.int .i64 0] : List Value) ++ (([.int .i64 0] : List Value) ++ (([.int .i64 0] : List Value) ++ (z32 ++ (z32 ++ (z32 ++ (([.int .i64 0] : List Value) ++ ([] : List Value)))))))))).toArray from hb2); have HP2 := Lib.hid (show Chg (fun b => b = w1.heap.size) w1 w2 from ((Chg.refl _ w1).alloc _).trans hc2 fun b h => .inl h); have hz2 : w1.heap.size + 1 ≤ w2.heap.size := (by have := hb2.lt; omega); have hcl0 : w2.cell? ⟨ba, oa, none⟩ = some (.slice A_0 r0.length c_0) := (World.cell?_of_block (a := ⟨ba, oa, none⟩) (HP2.out.block ba hba (fun e => by have e : ba = w1.heap.size := e; omega))).trans HC_0.out; clear hb2 hc2)
  refine (rnumI_out _ (HR_0.out.chg HP2.out fun b hb h => by have h : b = w1.heap.size := h; omega)).mono ?_
  rintro e wq ⟨hw, m0, g0, rfl, hm0, hsI, hsU⟩
  obtain rfl := hw.symm
  have HS0 := Lib.hid hsI
  clear hsI hsU hcl0
  have HPL0 := Lib.hid (show (([] : List Value)).length = 0 from by simp)
  go_simp
  repeat (first
    | (go_big_may; refine wpList_store_part (pre := ([] : List Value)) (old := ([.int .i64 0] : List Value)) (vals := ([.int .i64 (wrap64 (m0 : Int))] : List Value)) (post := (([.int .i64 0] : List Value) ++ (([.int .i64 0] : List Value) ++ (([.int .i64 0] : List Value) ++ (z32 ++ (z32 ++ (z32 ++ (([.int .i64 0] : List Value) ++ ([] : List Value))))))))) rfl 3 _ _ rfl HX2.out HPL0.out rfl (v := .int .i64 (wrap64 (m0 : Int))) rfl rfl (by simp only [List.length_cons, List.length_nil]) (by kernel_rfl) (fun u hu => by obtain rfl := List.mem_singleton.1 hu; rfl) ?_; intro w3 hbn hcn; have HX3 := Lib.hid hbn; have HC2 := Lib.hid hcn; have HP3 := Lib.hid (HP2.out.trans HC2.out fun b h => .inl h); have hz3 := Nat.le_trans hz2 HC2.out.size; have hcl1 : w3.cell? ⟨ba, oa + 1, none⟩ = some (.slice A_1 r1.length c_1) := (World.cell?_of_block (a := ⟨ba, oa + 1, none⟩) (HP3.out.block ba hba (fun e => by have e : ba = w1.heap.size := e; omega))).trans HC_1.out; clear hbn hcn)
    | go_values | go_skip | go_guarded | go_step | go_upon)
  refine (rnumI_out _ (HR_1.out.chg HP3.out fun b hb h => by have h : b = w1.heap.size := h; omega)).mono ?_
  rintro e wq ⟨hw, m1, g1, rfl, hm1, hsI, hsU⟩
  obtain rfl := hw.symm
  have HS1 := Lib.hid hsI
  clear hsI hsU hcl1
  have HPL1 := Lib.hid (show ((([] : List Value) ++ ([.int .i64 (wrap64 (m0 : Int))] : List Value))).length = 1 from by simp)
  go_simp
  repeat (first
    | ((with_reducible (show wpList _ _ _ (⟨_, .move _, _, _, _, some _⟩ :: _) _ _)); refine wpList_and g0 g1 _ _ _ rfl rfl rfl (by cases g0 <;> rfl) rfl (fun _ => rfl) (fun _ => rfl) ?_; intro vA1 k1 hk1; have HK1 := Lib.hid hk1; clear hk1)
    | (go_big_may; refine wpList_store_part (pre := (([] : List Value) ++ ([.int .i64 (wrap64 (m0 : Int))] : List Value))) (old := ([.int .i64 0] : List Value)) (vals := ([.int .i64 (wrap64 (m1 : Int))] : List Value)) (post := (([.int .i64 0] : List Value) ++ (([.int .i64 0] : List Value) ++ (z32 ++ (z32 ++ (z32 ++ (([.int .i64 0] : List Value) ++ ([] : List Value)))))))) rfl 3 _ _ rfl HX3.out HPL1.out rfl (v := .int .i64 (wrap64 (m1 : Int))) rfl rfl (by simp only [List.length_cons, List.length_nil]) (by kernel_rfl) (fun u hu => by obtain rfl := List.mem_singleton.1 hu; rfl) ?_; intro w4 hbn hcn; have HX4 := Lib.hid hbn; have HC3 := Lib.hid hcn; have HP4 := Lib.hid (HP3.out.trans HC3.out fun b h => .inl h); have hz4 := Nat.le_trans hz3 HC3.out.size; have hcl2 : w4.cell? ⟨ba, oa + 2, none⟩ = some (.slice A_2 r2.length c_2) := (World.cell?_of_block (a := ⟨ba, oa + 2, none⟩) (HP4.out.block ba hba (fun e => by have e : ba = w1.heap.size := e; omega))).trans HC_2.out; clear hbn hcn)
    | go_values | go_skip | go_guarded | go_step | go_upon)
  refine (rnumI_out _ (HR_2.out.chg HP4.out fun b hb h => by have h : b = w1.heap.size := h; omega)).mono ?_
  rintro e wq ⟨hw, m2, g2, rfl, hm2, hsI, hsU⟩
  obtain rfl := hw.symm
  have HS2 := Lib.hid hsI
  clear hsI hsU hcl2
  have HPL2 := Lib.hid (show (((([] : List Value) ++ ([.int .i64 (wrap64 (m0 : Int))] : List Value)) ++ ([.int .i64 (wrap64 (m1 : Int))] : List Value))).length = 2 from by simp)
  go_simp
  repeat (first
    | ((with_reducible (show wpList _ _ _ (⟨_, .move _, _, _, _, some _⟩ :: _) _ _)); refine wpList_and k1 g2 _ _ _ rfl rfl rfl (by cases k1 <;> rfl) rfl (fun _ => rfl) (fun _ => rfl) ?_; intro vA2 k2 hk2; have HK2 := Lib.hid hk2; clear hk2)
    | (go_big_may; refine wpList_store_part (pre := ((([] : List Value) ++ ([.int .i64 (wrap64 (m0 : Int))] : List Value)) ++ ([.int .i64 (wrap64 (m1 : Int))] : List Value))) (old := ([.int .i64 0] : List Value)) (vals := ([.int .i64 (wrap64 (m2 : Int))] : List Value)) (post := (([.int .i64 0] : List Value) ++ (z32 ++ (z32 ++ (z32 ++ (([.int .i64 0] : List Value) ++ ([] : List Value))))))) rfl 2 _ _ rfl HX4.out HPL2.out rfl (v := .int .i64 (wrap64 (m2 : Int))) rfl rfl (by simp only [List.length_cons, List.length_nil]) (by kernel_rfl) (fun u hu => by obtain rfl := List.mem_singleton.1 hu; rfl) ?_; intro w5 hbn hcn; have HX5 := Lib.hid hbn; have HC4 := Lib.hid hcn; have HP5 := Lib.hid (HP4.out.trans HC4.out fun b h => .inl h); have hz5 := Nat.le_trans hz4 HC4.out.size; have hcl3 : w5.cell? ⟨ba, oa + 3, none⟩ = some (.slice A_3 r3.length c_3) := (World.cell?_of_block (a := ⟨ba, oa + 3, none⟩) (HP5.out.block ba hba (fun e => by have e : ba = w1.heap.size := e; omega))).trans HC_3.out; clear hbn hcn)
    | go_values | go_skip | go_guarded | go_step | go_upon)
  refine (rnumI_out _ (HR_3.out.chg HP5.out fun b hb h => by have h : b = w1.heap.size := h; omega)).mono ?_
  rintro e wq ⟨hw, m3, g3, rfl, hm3, hsI, hsU⟩
  obtain rfl := hw.symm
  have HS3 := Lib.hid hsI
  clear hsI hsU hcl3
  have HPL3 := Lib.hid (show ((((([] : List Value) ++ ([.int .i64 (wrap64 (m0 : Int))] : List Value)) ++ ([.int .i64 (wrap64 (m1 : Int))] : List Value)) ++ ([.int .i64 (wrap64 (m2 : Int))] : List Value))).length = 3 from by simp)
  go_simp
  repeat (first
    | ((with_reducible (show wpList _ _ _ (⟨_, .move _, _, _, _, some _⟩ :: _) _ _)); refine wpList_and k2 g3 _ _ _ rfl rfl rfl (by cases k2 <;> rfl) rfl (fun _ => rfl) (fun _ => rfl) ?_; intro vA3 k3 hk3; have HK3 := Lib.hid hk3; clear hk3)
    | (go_big_may; refine wpList_store_part (pre := (((([] : List Value) ++ ([.int .i64 (wrap64 (m0 : Int))] : List Value)) ++ ([.int .i64 (wrap64 (m1 : Int))] : List Value)) ++ ([.int .i64 (wrap64 (m2 : Int))] : List Value))) (old := ([.int .i64 0] : List Value)) (vals := ([.int .i64 (wrap64 (m3 : Int))] : List Value)) (post := (z32 ++ (z32 ++ (z32 ++ (([.int .i64 0] : List Value) ++ ([] : List Value)))))) rfl 2 _ _ rfl HX5.out HPL3.out rfl (v := .int .i64 (wrap64 (m3 : Int))) rfl rfl (by simp only [List.length_cons, List.length_nil]) (by kernel_rfl) (fun u hu => by obtain rfl := List.mem_singleton.1 hu; rfl) ?_; intro w6 hbn hcn; have HX6 := Lib.hid hbn; have HC5 := Lib.hid hcn; have HP6 := Lib.hid (HP5.out.trans HC5.out fun b h => .inl h); have hz6 := Nat.le_trans hz5 HC5.out.size; have hcl4 : w6.cell? ⟨ba, oa + 4, none⟩ = some (.slice A_4 r4.length c_4) := (World.cell?_of_block (a := ⟨ba, oa + 4, none⟩) (HP6.out.block ba hba (fun e => by have e : ba = w1.heap.size := e; omega))).trans HC_4.out; clear hbn hcn)
    | go_values | go_skip | go_guarded | go_step | go_upon)
  refine (rdig_out _ (HR_4.out.chg HP6.out fun b hb h => by have h : b = w1.heap.size := h; omega)).mono ?_
  rintro e wa4 ⟨hba4, q4, g4, rfl, hs4⟩
  have hl4 : q4.length = 32 := hs4.1
  have HL4 := Lib.hid hl4
  have H14 := Lib.hid hs4.2.1
  have HI4 := Lib.hid (z32_sized hl4)
  have HZ4 := Lib.hid (show (z32).length = q4.length from by rw [hl4]; exact z32_len)
  have HXa4 := Lib.hid (HX6.out.below hba4 HX6.out.lt)
  have HBA4 := Lib.hid hba4
  have HS4 := Lib.hid hs4
  have hza4 := hba4.size
  clear hba4 hs4 hl4 hcl4
  have HPL4 := Lib.hid (show (((((([] : List Value) ++ ([.int .i64 (wrap64 (m0 : Int))] : List Value)) ++ ([.int .i64 (wrap64 (m1 : Int))] : List Value)) ++ ([.int .i64 (wrap64 (m2 : Int))] : List Value)) ++ ([.int .i64 (wrap64 (m3 : Int))] : List Value))).length = 4 from by simp)
  go_simp
  repeat (first
    | ((with_reducible (show wpList _ _ _ (⟨_, .move _, _, _, _, some _⟩ :: _) _ _)); refine wpList_and k3 g4 _ _ _ rfl rfl rfl (by cases k3 <;> rfl) rfl (fun _ => rfl) (fun _ => rfl) ?_; intro vA4 k4 hk4; have HK4 := Lib.hid hk4; clear hk4)
    | (go_big_may; refine wpList_store_blk (cs0 := z32) (cs := q4) rfl 36 _ _ rfl (Blk.new wa4 _ _) rfl rfl HZ4.out HI4.out H14.out ?_; intro wb4 hbb hcb; have HBB4 := Lib.hid hbb; have HCB4 := Lib.hid (show Chg (fun _ => False) wa4 wb4 from ((Chg.refl _ wa4).alloc _).trans hcb fun b h => .inr (Nat.le_of_eq h.symm)); have HXb4 := Lib.hid (HXa4.out.chg HCB4.out id); clear hbb hcb)
    | (go_big_may; refine wpList_load_blk' rfl 36 _ rfl HBB4.out rfl Tryz.underlying36 rfl HI4.out ?_)
    | (go_big_may; refine wpList_store_part (pre := ((((([] : List Value) ++ ([.int .i64 (wrap64 (m0 : Int))] : List Value)) ++ ([.int .i64 (wrap64 (m1 : Int))] : List Value)) ++ ([.int .i64 (wrap64 (m2 : Int))] : List Value)) ++ ([.int .i64 (wrap64 (m3 : Int))] : List Value))) (old := z32) (vals := q4) (post := (z32 ++ (z32 ++ (([.int .i64 0] : List Value) ++ ([] : List Value))))) rfl 36 _ _ rfl HXb4.out HPL4.out rfl (v := .agg q4.toArray) rfl rfl HZ4.out HI4.out H14.out ?_; intro w7 hbn hcn; have HX7 := Lib.hid hbn; have HC6 := Lib.hid (show Chg (fun b => b = w1.heap.size) w6 w7 from (((Chg.of_below HBA4.out fun b => b = w1.heap.size).trans HCB4.out fun b h => h.elim).trans hcn fun b h => .inl h)); have HCD4 := Lib.hid (show Chg (fun b => b = w1.heap.size) wa4 w7 from (HCB4.out.mono (M' := fun b => b = w1.heap.size) fun _ h => h.elim).trans hcn fun b h => .inl h); have HP7 := Lib.hid (HP6.out.trans HC6.out fun b h => .inl h); have hz7 := Nat.le_trans hz6 HC6.out.size; have hcl5 : w7.cell? ⟨ba, oa + 5, none⟩ = some (.slice A_5 r5.length c_5) := (World.cell?_of_block (a := ⟨ba, oa + 5, none⟩) (HP7.out.block ba hba (fun e => by have e : ba = w1.heap.size := e; omega))).trans HC_5.out; clear hbn hcn)
    | go_values | go_skip | go_guarded | go_step | go_upon)
  refine (rdig_out _ (HR_5.out.chg HP7.out fun b hb h => by have h : b = w1.heap.size := h; omega)).mono ?_
  rintro e wa5 ⟨hba5, q5, g5, rfl, hs5⟩
  have hl5 : q5.length = 32 := hs5.1
  have HL5 := Lib.hid hl5
  have H15 := Lib.hid hs5.2.1
  have HI5 := Lib.hid (z32_sized hl5)
  have HZ5 := Lib.hid (show (z32).length = q5.length from by rw [hl5]; exact z32_len)
  have HXa5 := Lib.hid (HX7.out.below hba5 HX7.out.lt)
  have HBA5 := Lib.hid hba5
  have HS5 := Lib.hid hs5
  have hza5 := hba5.size
  clear hba5 hs5 hl5 hcl5
  have HPL5 := Lib.hid (show ((((((([] : List Value) ++ ([.int .i64 (wrap64 (m0 : Int))] : List Value)) ++ ([.int .i64 (wrap64 (m1 : Int))] : List Value)) ++ ([.int .i64 (wrap64 (m2 : Int))] : List Value)) ++ ([.int .i64 (wrap64 (m3 : Int))] : List Value)) ++ q4)).length = 36 from by simp [HL4.out])
  go_simp
  repeat (first
    | ((with_reducible (show wpList _ _ _ (⟨_, .move _, _, _, _, some _⟩ :: _) _ _)); refine wpList_and k4 g5 _ _ _ rfl rfl rfl (by cases k4 <;> rfl) rfl (fun _ => rfl) (fun _ => rfl) ?_; intro vA5 k5 hk5; have HK5 := Lib.hid hk5; clear hk5)
    | (go_big_may; refine wpList_store_blk (cs0 := z32) (cs := q5) rfl 36 _ _ rfl (Blk.new wa5 _ _) rfl rfl HZ5.out HI5.out H15.out ?_; intro wb5 hbb hcb; have HBB5 := Lib.hid hbb; have HCB5 := Lib.hid (show Chg (fun _ => False) wa5 wb5 from ((Chg.refl _ wa5).alloc _).trans hcb fun b h => .inr (Nat.le_of_eq h.symm)); have HXb5 := Lib.hid (HXa5.out.chg HCB5.out id); clear hbb hcb)
    | (go_big_may; refine wpList_load_blk' rfl 36 _ rfl HBB5.out rfl Tryz.underlying36 rfl HI5.out ?_)
    | (go_big_may; refine wpList_store_part (pre := (((((([] : List Value) ++ ([.int .i64 (wrap64 (m0 : Int))] : List Value)) ++ ([.int .i64 (wrap64 (m1 : Int))] : List Value)) ++ ([.int .i64 (wrap64 (m2 : Int))] : List Value)) ++ ([.int .i64 (wrap64 (m3 : Int))] : List Value)) ++ q4)) (old := z32) (vals := q5) (post := (z32 ++ (([.int .i64 0] : List Value) ++ ([] : List Value)))) rfl 36 _ _ rfl HXb5.out HPL5.out rfl (v := .agg q5.toArray) rfl rfl HZ5.out HI5.out H15.out ?_; intro w8 hbn hcn; have HX8 := Lib.hid hbn; have HC7 := Lib.hid (show Chg (fun b => b = w1.heap.size) w7 w8 from (((Chg.of_below HBA5.out fun b => b = w1.heap.size).trans HCB5.out fun b h => h.elim).trans hcn fun b h => .inl h)); have HCD5 := Lib.hid (show Chg (fun b => b = w1.heap.size) wa5 w8 from (HCB5.out.mono (M' := fun b => b = w1.heap.size) fun _ h => h.elim).trans hcn fun b h => .inl h); have HP8 := Lib.hid (HP7.out.trans HC7.out fun b h => .inl h); have hz8 := Nat.le_trans hz7 HC7.out.size; have hcl6 : w8.cell? ⟨ba, oa + 6, none⟩ = some (.slice A_6 r6.length c_6) := (World.cell?_of_block (a := ⟨ba, oa + 6, none⟩) (HP8.out.block ba hba (fun e => by have e : ba = w1.heap.size := e; omega))).trans HC_6.out; clear hbn hcn)
    | go_values | go_skip | go_guarded | go_step | go_upon)
  refine (rdig_out _ (HR_6.out.chg HP8.out fun b hb h => by have h : b = w1.heap.size := h; omega)).mono ?_
  rintro e wa6 ⟨hba6, q6, g6, rfl, hs6⟩
  have hl6 : q6.length = 32 := hs6.1
  have HL6 := Lib.hid hl6
  have H16 := Lib.hid hs6.2.1
  have HI6 := Lib.hid (z32_sized hl6)
  have HZ6 := Lib.hid (show (z32).length = q6.length from by rw [hl6]; exact z32_len)
  have HXa6 := Lib.hid (HX8.out.below hba6 HX8.out.lt)
  have HBA6 := Lib.hid hba6
  have HS6 := Lib.hid hs6
  have hza6 := hba6.size
  clear hba6 hs6 hl6 hcl6
  have HPL6 := Lib.hid (show (((((((([] : List Value) ++ ([.int .i64 (wrap64 (m0 : Int))] : List Value)) ++ ([.int .i64 (wrap64 (m1 : Int))] : List Value)) ++ ([.int .i64 (wrap64 (m2 : Int))] : List Value)) ++ ([.int .i64 (wrap64 (m3 : Int))] : List Value)) ++ q4) ++ q5)).length = 68 from by simp [HL4.out, HL5.out])
  go_simp
  repeat (first
    | ((with_reducible (show wpList _ _ _ (⟨_, .move _, _, _, _, some _⟩ :: _) _ _)); refine wpList_and k5 g6 _ _ _ rfl rfl rfl (by cases k5 <;> rfl) rfl (fun _ => rfl) (fun _ => rfl) ?_; intro vA6 k6 hk6; have HK6 := Lib.hid hk6; clear hk6)
    | (go_big_may; refine wpList_store_blk (cs0 := z32) (cs := q6) rfl 36 _ _ rfl (Blk.new wa6 _ _) rfl rfl HZ6.out HI6.out H16.out ?_; intro wb6 hbb hcb; have HBB6 := Lib.hid hbb; have HCB6 := Lib.hid (show Chg (fun _ => False) wa6 wb6 from ((Chg.refl _ wa6).alloc _).trans hcb fun b h => .inr (Nat.le_of_eq h.symm)); have HXb6 := Lib.hid (HXa6.out.chg HCB6.out id); clear hbb hcb)
    | (go_big_may; refine wpList_load_blk' rfl 36 _ rfl HBB6.out rfl Tryz.underlying36 rfl HI6.out ?_)
    | (go_big_may; refine wpList_store_part (pre := ((((((([] : List Value) ++ ([.int .i64 (wrap64 (m0 : Int))] : List Value)) ++ ([.int .i64 (wrap64 (m1 : Int))] : List Value)) ++ ([.int .i64 (wrap64 (m2 : Int))] : List Value)) ++ ([.int .i64 (wrap64 (m3 : Int))] : List Value)) ++ q4) ++ q5)) (old := z32) (vals := q6) (post := (([.int .i64 0] : List Value) ++ ([] : List Value))) rfl 36 _ _ rfl HXb6.out HPL6.out rfl (v := .agg q6.toArray) rfl rfl HZ6.out HI6.out H16.out ?_; intro w9 hbn hcn; have HX9 := Lib.hid hbn; have HC8 := Lib.hid (show Chg (fun b => b = w1.heap.size) w8 w9 from (((Chg.of_below HBA6.out fun b => b = w1.heap.size).trans HCB6.out fun b h => h.elim).trans hcn fun b h => .inl h)); have HCD6 := Lib.hid (show Chg (fun b => b = w1.heap.size) wa6 w9 from (HCB6.out.mono (M' := fun b => b = w1.heap.size) fun _ h => h.elim).trans hcn fun b h => .inl h); have HP9 := Lib.hid (HP8.out.trans HC8.out fun b h => .inl h); have hz9 := Nat.le_trans hz8 HC8.out.size; have hcl7 : w9.cell? ⟨ba, oa + 7, none⟩ = some (.slice A_7 r7.length c_7) := (World.cell?_of_block (a := ⟨ba, oa + 7, none⟩) (HP9.out.block ba hba (fun e => by have e : ba = w1.heap.size := e; omega))).trans HC_7.out; clear hbn hcn)
    | go_values | go_skip | go_guarded | go_step | go_upon)
  refine (rnumI_out _ (HR_7.out.chg HP9.out fun b hb h => by have h : b = w1.heap.size := h; omega)).mono ?_
  rintro e wq ⟨hw, m7, g7, rfl, hm7, hsI, hsU⟩
  obtain rfl := hw.symm
  have HS7 := Lib.hid hsI
  clear hsI hsU hcl7
  have HPL7 := Lib.hid (show ((((((((([] : List Value) ++ ([.int .i64 (wrap64 (m0 : Int))] : List Value)) ++ ([.int .i64 (wrap64 (m1 : Int))] : List Value)) ++ ([.int .i64 (wrap64 (m2 : Int))] : List Value)) ++ ([.int .i64 (wrap64 (m3 : Int))] : List Value)) ++ q4) ++ q5) ++ q6)).length = 100 from by simp [HL4.out, HL5.out, HL6.out])
  go_simp
  repeat (first
    | ((with_reducible (show wpList _ _ _ (⟨_, .move _, _, _, _, some _⟩ :: _) _ _)); refine wpList_and k6 g7 _ _ _ rfl rfl rfl (by cases k6 <;> rfl) rfl (fun _ => rfl) (fun _ => rfl) ?_; intro vA7 k7 hk7; have HK7 := Lib.hid hk7; clear hk7; cases k7 <;> refine Hid.out ?_)
    | (go_big_may; refine wpList_store_part (pre := (((((((([] : List Value) ++ ([.int .i64 (wrap64 (m0 : Int))] : List Value)) ++ ([.int .i64 (wrap64 (m1 : Int))] : List Value)) ++ ([.int .i64 (wrap64 (m2 : Int))] : List Value)) ++ ([.int .i64 (wrap64 (m3 : Int))] : List Value)) ++ q4) ++ q5) ++ q6)) (old := ([.int .i64 0] : List Value)) (vals := ([.int .i64 (wrap64 (m7 : Int))] : List Value)) (post := ([] : List Value)) rfl 3 _ _ rfl HX9.out HPL7.out rfl (v := .int .i64 (wrap64 (m7 : Int))) rfl rfl (by simp only [List.length_cons, List.length_nil]) (by kernel_rfl) (fun u hu => by obtain rfl := List.mem_singleton.1 hu; rfl) ?_; intro w10 hbn hcn; have HX10 := Lib.hid hbn; have HC9 := Lib.hid hcn; have HP10 := Lib.hid (HP9.out.trans HC9.out fun b h => .inl h); have hz10 := Nat.le_trans hz9 HC9.out.size; clear hbn hcn)
    | go_values | go_skip | go_guarded | go_step | go_upon)
  · refine Lib.hid ?_
    have HRR := Lib.hid ((HR1.out.chg HP10.out (fun h => by have h : w.heap.size = w1.heap.size := h; omega)))
    have HB0 := Lib.hid (HB1.out.trans (HP10.out.below HB1.out.size fun b h => by have h : b = w1.heap.size := h; omega))
    have hkb4 : ∀ b, w6.heap.size ≤ b → b < wa4.heap.size → b < w7.heap.size ∧ w7.heap[b]? = wa4.heap[b]? := fun b hb hlt => ⟨ltle hlt HCD4.out.size, HCD4.out.block b hlt fun e => by have e : b = w1.heap.size := e; omega⟩
    have hkb5 : ∀ b, w7.heap.size ≤ b → b < wa5.heap.size → b < w8.heap.size ∧ w8.heap[b]? = wa5.heap[b]? := fun b hb hlt => ⟨ltle hlt HCD5.out.size, HCD5.out.block b hlt fun e => by have e : b = w1.heap.size := e; omega⟩
    have hkb6 : ∀ b, w8.heap.size ≤ b → b < wa6.heap.size → b < w9.heap.size ∧ w9.heap[b]? = wa6.heap[b]? := fun b hb hlt => ⟨ltle hlt HCD6.out.size, HCD6.out.block b hlt fun e => by have e : b = w1.heap.size := e; omega⟩
    have ho0 : SOut i64 w3 (Nw w2.heap.size w3) r0 ([.int .i64 (wrap64 (m0 : Int))] : List Value) false g0 := (HS0.out w3 (Nw w2.heap.size w3))
    have ho1 : SOut i64 w4 (Nw w3.heap.size w4) r1 ([.int .i64 (wrap64 (m1 : Int))] : List Value) g0 k1 := (HS1.out w4 (Nw w3.heap.size w4)).orr g0 k1 HK1.out
    have ho2 : SOut i64 w5 (Nw w4.heap.size w5) r2 ([.int .i64 (wrap64 (m2 : Int))] : List Value) k1 k2 := (HS2.out w5 (Nw w4.heap.size w5)).orr k1 k2 HK2.out
    have ho3 : SOut i64 w6 (Nw w5.heap.size w6) r3 ([.int .i64 (wrap64 (m3 : Int))] : List Value) k2 k3 := (HS3.out w6 (Nw w5.heap.size w6)).orr k2 k3 HK3.out
    have ho4 : SOut .dig w7 (Nw w6.heap.size w7) r4 q4 k3 k4 := (HS4.out.nw (k' := w6.heap.size) (w' := w7) hkb4 (Nat.le_refl _)).orr k3 k4 HK4.out
    have ho5 : SOut .dig w8 (Nw w7.heap.size w8) r5 q5 k4 k5 := (HS5.out.nw (k' := w7.heap.size) (w' := w8) hkb5 (Nat.le_refl _)).orr k4 k5 HK5.out
    have ho6 : SOut .dig w9 (Nw w8.heap.size w9) r6 q6 k5 k6 := (HS6.out.nw (k' := w8.heap.size) (w' := w9) hkb6 (Nat.le_refl _)).orr k5 k6 HK6.out
    have ho7 : SOut i64 w10 (Nw w9.heap.size w10) r7 ([.int .i64 (wrap64 (m7 : Int))] : List Value) k6 false := (HS7.out w10 (Nw w9.heap.size w10)).orr k6 false HK7.out
    have hout : Fs.Out (.cons i64 (.cons i64 (.cons i64 (.cons i64 (.cons .dig (.cons .dig (.cons .dig (.cons i64 .nil)))))))) w10 (Nw (w.heap.size + 1) w10) [r0, r1, r2, r3, r4, r5, r6, r7] (([.int .i64 (wrap64 (m0 : Int))] : List Value) ++ (([.int .i64 (wrap64 (m1 : Int))] : List Value) ++ (([.int .i64 (wrap64 (m2 : Int))] : List Value) ++ (([.int .i64 (wrap64 (m3 : Int))] : List Value) ++ (q4 ++ (q5 ++ (q6 ++ (([.int .i64 (wrap64 (m7 : Int))] : List Value) ++ [])))))))) false false := Fs.Out.stepR ho0 (Fs.Out.stepR ho1 (Fs.Out.stepR ho2 (Fs.Out.stepR ho3 (Fs.Out.stepR ho4 (Fs.Out.stepR ho5 (Fs.Out.stepR ho6 (Fs.Out.stepR ho7 (Fs.Out.nil_ w10 _ _) (Chg.refl (fun k => k = w1.heap.size) _) (by omega) (by omega)) HC9.out (by omega) (by omega)) (HC8.out.trans HC9.out fun b h => .inl h) (by omega) (by omega)) ((HC7.out.trans HC8.out fun b h => .inl h).trans HC9.out fun b h => .inl h) (by omega) (by omega)) (((HC6.out.trans HC7.out fun b h => .inl h).trans HC8.out fun b h => .inl h).trans HC9.out fun b h => .inl h) (by omega) (by omega)) ((((HC5.out.trans HC6.out fun b h => .inl h).trans HC7.out fun b h => .inl h).trans HC8.out fun b h => .inl h).trans HC9.out fun b h => .inl h) (by omega) (by omega)) (((((HC4.out.trans HC5.out fun b h => .inl h).trans HC6.out fun b h => .inl h).trans HC7.out fun b h => .inl h).trans HC8.out fun b h => .inl h).trans HC9.out fun b h => .inl h) (by omega) (by omega)) ((((((HC3.out.trans HC4.out fun b h => .inl h).trans HC5.out fun b h => .inl h).trans HC6.out fun b h => .inl h).trans HC7.out fun b h => .inl h).trans HC8.out fun b h => .inl h).trans HC9.out fun b h => .inl h) (by omega) (by omega)
    have htup : SOut tHeader w10 (Nw (w.heap.size + 1) w10) bs (([.int .i64 (wrap64 (m0 : Int))] : List Value) ++ (([.int .i64 (wrap64 (m1 : Int))] : List Value) ++ (([.int .i64 (wrap64 (m2 : Int))] : List Value) ++ (([.int .i64 (wrap64 (m3 : Int))] : List Value) ++ (q4 ++ (q5 ++ (q6 ++ (([.int .i64 (wrap64 (m7 : Int))] : List Value) ++ [])))))))) false false := Fs.Out.tup (n := 8) hout (.inl ⟨rfl, HSP.out⟩) fun l x h => Fs.decs_len _ l x h
    have hpre : ((((((((([] : List Value) ++ ([.int .i64 (wrap64 (m0 : Int))] : List Value)) ++ ([.int .i64 (wrap64 (m1 : Int))] : List Value)) ++ ([.int .i64 (wrap64 (m2 : Int))] : List Value)) ++ ([.int .i64 (wrap64 (m3 : Int))] : List Value)) ++ q4) ++ q5) ++ q6) ++ ([.int .i64 (wrap64 (m7 : Int))] : List Value)) = (([.int .i64 (wrap64 (m0 : Int))] : List Value) ++ (([.int .i64 (wrap64 (m1 : Int))] : List Value) ++ (([.int .i64 (wrap64 (m2 : Int))] : List Value) ++ (([.int .i64 (wrap64 (m3 : Int))] : List Value) ++ (q4 ++ (q5 ++ (q6 ++ (([.int .i64 (wrap64 (m7 : Int))] : List Value) ++ [])))))))) := by simp
    obtain ⟨C, hC⟩ : ∃ C, C = (([.int .i64 (wrap64 (m0 : Int))] : List Value) ++ (([.int .i64 (wrap64 (m1 : Int))] : List Value) ++ (([.int .i64 (wrap64 (m2 : Int))] : List Value) ++ (([.int .i64 (wrap64 (m3 : Int))] : List Value) ++ (q4 ++ (q5 ++ (q6 ++ (([.int .i64 (wrap64 (m7 : Int))] : List Value) ++ [])))))))) := ⟨_, rfl⟩
    rw [← hC] at htup hpre
    have hX := HX10.out
    rw [hpre, List.append_nil] at hX
    have HX := Lib.hid hX
    have hCl : C.length = 101 := htup.1
    have HI := Lib.hid (zrHeader_sized hCl)
    have HL := Lib.hid (show zrHeader.length = C.length from by rw [hCl]; exact zrHeader_len)
    have H1 := Lib.hid htup.2.1
    have HT := Lib.hid htup
    clear hout htup hpre hX hCl hC ho0 ho1 ho2 ho3 ho4 ho5 ho6 ho7 hkb4 hkb5 hkb6
    go_wp2_with (first
      | (refine wpList_load_blk' rfl 38 _ rfl HX.out rfl Tryz.underlying38 rfl HI.out ?_)
      | (refine wpList_store_blk (cs0 := zrHeader) (cs := C) rfl 38 _ _ rfl HRR.out rfl rfl HL.out HI.out H1.out ?_; intro w9 hb9 hc9; have HB9 := Lib.hid hb9; have HC9 := Lib.hid hc9; clear hb9 hc9))
    have hld := run_loadVar_mid (P := Tryz.prog) w9 w.heap.size 0 38 C _ HB9.out.range Tryz.underlying38 rfl HI.out
    refine bodyPost_ret (v := .tuple #[.agg (C).toArray, .bool true]) (by simp [results, Tryz.results9, asAddr, hld]) rfl ?_
    exact ⟨HB0.out.trans (HC9.out.below HB0.out.size fun b h => Nat.le_of_eq h.symm), C, false, rfl, HT.out.nw (w' := w9) (k' := w.heap.size) (fun b hb hlt => ⟨ltle hlt HC9.out.size, HC9.out.block b hlt fun e => by have e : b = w.heap.size := e; omega⟩) (by omega), fun h => by cases h⟩
  · refine Lib.hid ?_
    have HRR := Lib.hid ((HR1.out.chg HP10.out (fun h => by have h : w.heap.size = w1.heap.size := h; omega)))
    have HB0 := Lib.hid (HB1.out.trans (HP10.out.below HB1.out.size fun b h => by have h : b = w1.heap.size := h; omega))
    have hkb4 : ∀ b, w6.heap.size ≤ b → b < wa4.heap.size → b < w7.heap.size ∧ w7.heap[b]? = wa4.heap[b]? := fun b hb hlt => ⟨ltle hlt HCD4.out.size, HCD4.out.block b hlt fun e => by have e : b = w1.heap.size := e; omega⟩
    have hkb5 : ∀ b, w7.heap.size ≤ b → b < wa5.heap.size → b < w8.heap.size ∧ w8.heap[b]? = wa5.heap[b]? := fun b hb hlt => ⟨ltle hlt HCD5.out.size, HCD5.out.block b hlt fun e => by have e : b = w1.heap.size := e; omega⟩
    have hkb6 : ∀ b, w8.heap.size ≤ b → b < wa6.heap.size → b < w9.heap.size ∧ w9.heap[b]? = wa6.heap[b]? := fun b hb hlt => ⟨ltle hlt HCD6.out.size, HCD6.out.block b hlt fun e => by have e : b = w1.heap.size := e; omega⟩
    have ho0 : SOut i64 w3 (Nw w2.heap.size w3) r0 ([.int .i64 (wrap64 (m0 : Int))] : List Value) false g0 := (HS0.out w3 (Nw w2.heap.size w3))
    have ho1 : SOut i64 w4 (Nw w3.heap.size w4) r1 ([.int .i64 (wrap64 (m1 : Int))] : List Value) g0 k1 := (HS1.out w4 (Nw w3.heap.size w4)).orr g0 k1 HK1.out
    have ho2 : SOut i64 w5 (Nw w4.heap.size w5) r2 ([.int .i64 (wrap64 (m2 : Int))] : List Value) k1 k2 := (HS2.out w5 (Nw w4.heap.size w5)).orr k1 k2 HK2.out
    have ho3 : SOut i64 w6 (Nw w5.heap.size w6) r3 ([.int .i64 (wrap64 (m3 : Int))] : List Value) k2 k3 := (HS3.out w6 (Nw w5.heap.size w6)).orr k2 k3 HK3.out
    have ho4 : SOut .dig w7 (Nw w6.heap.size w7) r4 q4 k3 k4 := (HS4.out.nw (k' := w6.heap.size) (w' := w7) hkb4 (Nat.le_refl _)).orr k3 k4 HK4.out
    have ho5 : SOut .dig w8 (Nw w7.heap.size w8) r5 q5 k4 k5 := (HS5.out.nw (k' := w7.heap.size) (w' := w8) hkb5 (Nat.le_refl _)).orr k4 k5 HK5.out
    have ho6 : SOut .dig w9 (Nw w8.heap.size w9) r6 q6 k5 k6 := (HS6.out.nw (k' := w8.heap.size) (w' := w9) hkb6 (Nat.le_refl _)).orr k5 k6 HK6.out
    have ho7 : SOut i64 w10 (Nw w9.heap.size w10) r7 ([.int .i64 (wrap64 (m7 : Int))] : List Value) k6 true := (HS7.out w10 (Nw w9.heap.size w10)).orr k6 true HK7.out
    have hout : Fs.Out (.cons i64 (.cons i64 (.cons i64 (.cons i64 (.cons .dig (.cons .dig (.cons .dig (.cons i64 .nil)))))))) w10 (Nw (w.heap.size + 1) w10) [r0, r1, r2, r3, r4, r5, r6, r7] (([.int .i64 (wrap64 (m0 : Int))] : List Value) ++ (([.int .i64 (wrap64 (m1 : Int))] : List Value) ++ (([.int .i64 (wrap64 (m2 : Int))] : List Value) ++ (([.int .i64 (wrap64 (m3 : Int))] : List Value) ++ (q4 ++ (q5 ++ (q6 ++ (([.int .i64 (wrap64 (m7 : Int))] : List Value) ++ [])))))))) false true := Fs.Out.stepR ho0 (Fs.Out.stepR ho1 (Fs.Out.stepR ho2 (Fs.Out.stepR ho3 (Fs.Out.stepR ho4 (Fs.Out.stepR ho5 (Fs.Out.stepR ho6 (Fs.Out.stepR ho7 (Fs.Out.nil_ w10 _ _) (Chg.refl (fun k => k = w1.heap.size) _) (by omega) (by omega)) HC9.out (by omega) (by omega)) (HC8.out.trans HC9.out fun b h => .inl h) (by omega) (by omega)) ((HC7.out.trans HC8.out fun b h => .inl h).trans HC9.out fun b h => .inl h) (by omega) (by omega)) (((HC6.out.trans HC7.out fun b h => .inl h).trans HC8.out fun b h => .inl h).trans HC9.out fun b h => .inl h) (by omega) (by omega)) ((((HC5.out.trans HC6.out fun b h => .inl h).trans HC7.out fun b h => .inl h).trans HC8.out fun b h => .inl h).trans HC9.out fun b h => .inl h) (by omega) (by omega)) (((((HC4.out.trans HC5.out fun b h => .inl h).trans HC6.out fun b h => .inl h).trans HC7.out fun b h => .inl h).trans HC8.out fun b h => .inl h).trans HC9.out fun b h => .inl h) (by omega) (by omega)) ((((((HC3.out.trans HC4.out fun b h => .inl h).trans HC5.out fun b h => .inl h).trans HC6.out fun b h => .inl h).trans HC7.out fun b h => .inl h).trans HC8.out fun b h => .inl h).trans HC9.out fun b h => .inl h) (by omega) (by omega)
    have htup : SOut tHeader w10 (Nw (w.heap.size + 1) w10) bs (([.int .i64 (wrap64 (m0 : Int))] : List Value) ++ (([.int .i64 (wrap64 (m1 : Int))] : List Value) ++ (([.int .i64 (wrap64 (m2 : Int))] : List Value) ++ (([.int .i64 (wrap64 (m3 : Int))] : List Value) ++ (q4 ++ (q5 ++ (q6 ++ (([.int .i64 (wrap64 (m7 : Int))] : List Value) ++ [])))))))) false true := Fs.Out.tup (n := 8) hout (.inl ⟨rfl, HSP.out⟩) fun l x h => Fs.decs_len _ l x h
    have HNO := Lib.hid (show Sh.dec tHeader bs = none from by
      rcases htup.2.2 with ⟨_, _, h, _⟩ | ⟨h, _⟩
      · cases h
      · exact h)
    clear hout htup ho0 ho1 ho2 ho3 ho4 ho5 ho6 ho7 hkb4 hkb5 hkb6
    go_wp2_with (refine wpList_store_blk (cs0 := zrHeader) (cs := zrHeader) rfl 38 _ _ rfl HRR.out rfl rfl rfl zrHeader_size zrHeader_one ?_; intro w9 hb9 hc9; have HB9 := Lib.hid hb9; have HC9 := Lib.hid hc9; clear hb9 hc9)
    have hld := run_loadVar_mid (P := Tryz.prog) w9 w.heap.size 0 38 zrHeader _ HB9.out.range Tryz.underlying38 rfl zrHeader_size
    refine bodyPost_ret (v := .tuple #[.agg (zrHeader).toArray, .bool false]) (by simp [results, Tryz.results9, asAddr, hld]) rfl ?_
    exact ⟨HB0.out.trans (HC9.out.below HB0.out.size fun b h => Nat.le_of_eq h.symm), _, true, rfl, ⟨zrHeader_len, zrHeader_one, .inr ⟨HNO.out, rfl⟩⟩, fun _ => rfl⟩
end
section
open Go.RowKit
section
variable {P : Program} {ops : Array Oper} {Q : Exit → Act → World → Prop} {S S' : World → Prop} {late late' : List Nat}
theorem AnyS.weaken : ∀ (n : Nat) (listed : Array Bool) (a : Act) (w : World), (∀ i, listed.getD i true = false → late.contains i = true) → AnyS P ops Q S' late' n listed a w → AnyS P ops Q S late n listed a w
  | 0, _, _, _, _, h => h
  | n + 1, listed, a, w, hl, h => ⟨h.1, fun i hi => wpOp_mono (fun a' w' h' => ⟨fun hn => (by rw [hl i (mem_ready.1 hi).1] at hn; cases hn), AnyS.weaken n _ a' w' (fun k hk => by
      by_cases e : i = k
      · subst e
        exact hl i (mem_ready.1 hi).1
      · rw [getD_set_ne true e] at hk
        exact hl k hk) h'.2⟩) (h.2 i hi)⟩
def EffK (P : Program) (ops : Array Oper) (Q : Exit → Act → World → Prop) : List Oper → Act → World → (Act → World → Prop) → Prop
  | [], a, w, K => K a w
  | o :: r, a, w, K => wpList P ops (Exit.then (fun a' w' => EffK P ops Q r a' w' K) Q) [o] a w
theorem EffK.nil_ {a : Act} {w : World} {K : Act → World → Prop} (h : K a w) : EffK P ops Q [] a w K := h
theorem EffK.cons_ {o : Oper} {r : List Oper} {a : Act} {w : World} {K : Act → World → Prop} (h : ∀ Q' : Exit → Act → World → Prop, (∀ a w, EffK P ops Q r a w K → Q' .normal a w) → wpList P ops Q' [o] a w) : EffK P ops Q (o :: r) a w K :=
  h _ fun _ _ he => he
def chainPre (ops : Array Oper) : List Nat → Array Bool → Bool
  | [], _ => true
  | i :: r, listed => (Region.ready .any ops listed == [i]) && chainPre ops r (listed.setIfInBounds i true)
theorem Closed.chain : ∀ (E : List Nat) (listed : Array Bool), Closed ops listed → chainPre ops E listed = true → Closed ops (listedBy E listed)
  | [], _, h, _ => h
  | i :: r, listed, h, hc => by
    simp only [chainPre, Bool.and_eq_true, beq_iff_eq] at hc
    exact Closed.chain r _ (h.more (by rw [hc.1]; simp)) hc.2
theorem Closed.hoist {late : List Nat} : ∀ (H : List Nat) (listed : Array Bool), Closed ops listed → hoistOk ops late H listed = true → Closed ops (listedBy H listed)
  | [], _, h, _ => h
  | i :: r, listed, h, hc => by
    simp only [hoistOk, Bool.and_eq_true] at hc
    exact Closed.hoist r _ (h.more (by simpa using hc.1.1.2)) hc.2
theorem AnyS.chainK {n : Nat} {K : Act → World → Prop} : ∀ (E : List Nat) (listed : Array Bool) (a : Act) (w : World), E.all (fun i => late.contains i) = true → chainPre ops E listed = true → E.all (fun i => (ops[i]?).isSome) = true →
    (∀ a' w', K a' w' → AnyS P ops (NoPanic Q) S late n (listedBy E listed) a' w') → EffK P ops (NoPanic Q) (opsAt ops E) a w K → AnyS P ops (NoPanic Q) S late (E.length + n) listed a w
  | [], listed, a, w, _, _, _, hK, h => by simpa [opsAt, EffK, listedBy] using hK a w h
  | i :: r, listed, a, w, hl, hc, hs, hK, h => by
    simp only [List.all_cons, Bool.and_eq_true] at hl hs
    simp only [chainPre, Bool.and_eq_true, beq_iff_eq] at hc
    obtain ⟨o, ho⟩ := Option.isSome_iff_exists.1 hs.1
    rw [show (i :: r).length + n = r.length + n + 1 from by simp; omega]
    refine ⟨fun h0 => (by rw [hc.1] at h0; cases h0), fun j hj => ?_⟩
    rw [hc.1] at hj
    obtain rfl : j = i := by simpa using hj
    have hops : opsAt ops (j :: r) = o :: opsAt ops r := by simp [opsAt, ho]
    rw [hops] at h
    exact wpOp_mono (fun a' w' h' => ⟨fun hn => (by rw [hl.1] at hn; cases hn), AnyS.chainK r _ _ _ hl.2 hc.2 hs.2 hK h'⟩) (wpList_one ho h (fun h => h) (fun _ _ _ h => h))
theorem listedBy_less : ∀ (E : List Nat) (listed : Array Bool) (i : Nat), (listedBy E listed).getD i true = false → listed.getD i true = false
  | [], _, _, h => h
  | k :: r, listed, i, h => by
    have := listedBy_less r (listed.setIfInBounds k true) i h
    by_cases e : k = i
    · subst e
      simp only [Array.getD_eq_getD_getElem?, Array.getElem?_setIfInBounds] at this
      split at this
      · split at this <;> simp at this
      · rename_i hne; exact absurd trivial hne
    · rwa [getD_set_ne true e] at this
theorem listedBy_size : ∀ (E : List Nat) (listed : Array Bool), (listedBy E listed).size = listed.size
  | [], _ => rfl
  | k :: r, listed => by have := listedBy_size r (listed.setIfInBounds k true); simpa [listedBy] using this
theorem wp_region_two {id : Nat} {a : Act} {w : World} (H E H2 : List Nat) (S : World → Prop) (hm : P.follows .mixedOrders = true)
    (hsel : Region.noSelect ops = true) (hall : H.length + (E.length + (H2.length + 0)) = ops.size) (hok : hoistOk ops (E ++ H2) H (Array.replicate ops.size false) = true)
    (hch : chainPre ops E (listedBy H (Array.replicate ops.size false)) = true) (hsome : E.all (fun i => (ops[i]?).isSome) = true)
    (hok2 : hoistOk ops [] H2 (listedBy E (listedBy H (Array.replicate ops.size false))) = true)
    (hrest : (List.range ops.size).all (fun i => (listedBy H (Array.replicate ops.size false)).getD i true || (E ++ H2).contains i) = true)
    (hend : (Region.ready .any ops (listedBy H2 (listedBy E (listedBy H (Array.replicate ops.size false))))).isEmpty = true)
    (hS : S w.drew) (hH : HoistK P ops S H a fun a' => EffK P ops (NoPanic Q) (opsAt ops E) a' w.drew fun a2 w2 => HoistK P ops (fun _ => True) H2 a2 fun a3 =>
      ∀ Q' : Exit → Act → World → Prop, (∀ a w, Q .normal a w → Q' .normal a w) → wpList P ops Q' [] a3 w2) : (Code.region id ops true).wp P Q a w := by
  obtain ⟨a', hH, h⟩ := HoistK.out _ _ _ hH
  have hcl1 := Closed.hoist (late := E ++ H2) H _ (Closed.start ops.size) hok
  have hcl2 := Closed.chain E _ hcl1 hch
  have hrest' : ∀ i, (listedBy H (Array.replicate ops.size false)).getD i true = false → (E ++ H2).contains i = true := fun i hi => by
    have hlt : i < ops.size := by
      rcases Nat.lt_or_ge i ops.size with h | h
      · exact h
      · have := listedBy_size H (Array.replicate ops.size false)
        rw [Array.getD_eq_getD_getElem?, Array.getElem?_eq_none (by rw [this]; simpa using h)] at hi
        cases hi
    have := List.all_eq_true.1 hrest i (List.mem_range.2 hlt)
    rw [hi] at this
    simpa using this
  have hmid : AnyS P ops (NoPanic Q) S (E ++ H2) (E.length + (H2.length + 0)) (listedBy H (Array.replicate ops.size false)) a' w.drew := by
    refine AnyS.chainK E _ _ _ (List.all_eq_true.2 fun i hi => by simp [hi]) hch hsome (fun a2 w2 h2 => ?_) h
    obtain ⟨a3, hH2, h3⟩ := HoistK.out _ _ _ h2
    have hq : NoPanic Q .normal a3 w2 := h3 (NoPanic Q) (fun _ _ h => h)
    have := AnyS.hoist (Q := Q) (late := []) hsel (S := fun _ => True) trivial H2 0 _ a2 hcl2 hok2 hH2 ⟨by simpa using hend, hq⟩
    exact AnyS.weaken _ _ _ _ (fun i hi => hrest' i (listedBy_less E _ i hi)) this
  have hfin := AnyS.hoist (Q := Q) (late := E ++ H2) hsel hS H _ _ a (Closed.start _) hok hH hmid
  rw [hall] at hfin
  exact wp_region_noPanic (wp_region_any hm (AnyS.any (S := S) (late := E ++ H2) _ _ _ _ hfin))
end
end
section
open Go.RowKit
section
variable {P : Program} {ops : Array Oper} {Q : Exit → Act → World → Prop} {S : World → Prop}
def EffS (P : Program) (ops : Array Oper) (Q : Exit → Act → World → Prop) (S : World → Prop) : List Oper → Act → World → (Act → World → Prop) → Prop
  | [], a, w, K => K a w
  | o :: r, a, w, K => wpList P ops (Exit.then (fun a' w' => S w' ∧ EffS P ops Q S r a' w' K) Q) [o] a w
theorem EffS.nil_ {a : Act} {w : World} {K : Act → World → Prop} (h : K a w) : EffS P ops Q S [] a w K := h
theorem EffS.cons_ {o : Oper} {r : List Oper} {a : Act} {w : World} {K : Act → World → Prop} (h : ∀ Q' : Exit → Act → World → Prop, (∀ a w, S w → EffS P ops Q S r a w K → Q' .normal a w) → wpList P ops Q' [o] a w) : EffS P ops Q S (o :: r) a w K :=
  h _ fun _ _ hs he => ⟨hs, he⟩
theorem AnyS.chainS {n : Nat} {K : Act → World → Prop} : ∀ (E : List Nat) (listed : Array Bool) (a : Act) (w : World), chainPre ops E listed = true → E.all (fun i => (ops[i]?).isSome) = true → S w →
    (∀ a' w', S w' → K a' w' → AnyS P ops (NoPanic Q) S [] n (listedBy E listed) a' w') → EffS P ops (NoPanic Q) S (opsAt ops E) a w K → AnyS P ops (NoPanic Q) S [] (E.length + n) listed a w
  | [], listed, a, w, _, _, hS, hK, h => by simpa [opsAt, EffS, listedBy] using hK a w hS h
  | i :: r, listed, a, w, hc, hs, hS, hK, h => by
    simp only [List.all_cons, Bool.and_eq_true] at hs
    simp only [chainPre, Bool.and_eq_true, beq_iff_eq] at hc
    obtain ⟨o, ho⟩ := Option.isSome_iff_exists.1 hs.1
    rw [show (i :: r).length + n = r.length + n + 1 from by simp; omega]
    refine ⟨fun h0 => (by rw [hc.1] at h0; cases h0), fun j hj => ?_⟩
    rw [hc.1] at hj
    obtain rfl : j = i := by simpa using hj
    have hops : opsAt ops (j :: r) = o :: opsAt ops r := by simp [opsAt, ho]
    rw [hops] at h
    exact wpOp_mono (fun a' w' h' => ⟨fun _ => h'.1, AnyS.chainS r _ _ _ hc.2 hs.2 h'.1 hK h'.2⟩) (wpList_one ho h (fun h => h) (fun _ _ _ h => h))
def SegK (P : Program) (ops : Array Oper) (Q : Exit → Act → World → Prop) (S : World → Prop) : List (List Nat × List Nat) → Act → World → Prop
  | [], a, w => ∀ Q' : Exit → Act → World → Prop, (∀ a w, Q .normal a w → Q' .normal a w) → wpList P ops Q' [] a w
  | (H, E) :: r, a, w => HoistK P ops S H a fun a' => EffS P ops (NoPanic Q) S (opsAt ops E) a' w (SegK P ops Q S r)
def segsOk (ops : Array Oper) : List (List Nat × List Nat) → Array Bool → Bool
  | [], listed => (Region.ready .any ops listed).isEmpty
  | (H, E) :: r, listed => hoistOk ops [] H listed && chainPre ops E (listedBy H listed) && E.all (fun i => (ops[i]?).isSome) && segsOk ops r (listedBy E (listedBy H listed))
def segsLen : List (List Nat × List Nat) → Nat
  | [] => 0
  | (H, E) :: r => H.length + (E.length + segsLen r)
theorem AnyS.segs (hsel : Region.noSelect ops = true) : ∀ (segs : List (List Nat × List Nat)) (listed : Array Bool) (a : Act) (w : World), Closed ops listed → segsOk ops segs listed = true → S w → SegK P ops Q S segs a w → AnyS P ops (NoPanic Q) S [] (segsLen segs) listed a w
  | [], listed, a, w, _, hok, _, h => ⟨by simpa [segsOk] using hok, (h (NoPanic Q) (fun _ _ h => h) : NoPanic Q .normal a w)⟩
  | (H, E) :: r, listed, a, w, hcl, hok, hS, h => by
    simp only [segsOk, Bool.and_eq_true] at hok
    obtain ⟨⟨⟨h1, h2⟩, h3⟩, h4⟩ := hok
    obtain ⟨a', hH, h⟩ := HoistK.out _ _ _ h
    have hcl1 := Closed.hoist (late := []) H _ hcl h1
    have hcl2 := Closed.chain E _ hcl1 h2
    exact AnyS.hoist hsel hS H _ _ a hcl h1 hH (AnyS.chainS E _ _ _ h2 h3 hS (fun a2 w2 hs2 hk => AnyS.segs hsel r _ a2 w2 hcl2 h4 hs2 hk) h)
theorem wp_region_segs {id : Nat} {a : Act} {w : World} (segs : List (List Nat × List Nat)) (S : World → Prop) (hm : P.follows .mixedOrders = true) (hsel : Region.noSelect ops = true)
    (hall : segsLen segs = ops.size) (hok : segsOk ops segs (Array.replicate ops.size false) = true) (hS : S w.drew) (h : SegK P ops Q S segs a w.drew) : (Code.region id ops true).wp P Q a w := by
  have hfin := AnyS.segs (Q := Q) hsel segs _ a _ (Closed.start ops.size) hok hS h
  rw [hall] at hfin
  exact wp_region_noPanic (wp_region_any hm (AnyS.any (S := S) (late := []) _ _ _ _ hfin))
end
end
end Go.Proofs.YtjjgmkfkmckkoaaGreatDoor
