/- Texts joined: CgG CgH CfB Cut CfC CfD CfE CfG CgI CfM CfI CfO CfJ CfF CfK CfP CfQ CfR CfS CfU. -/
import Derived.Test.YtkclkmjlodomkaaGreatDoorMb
import Derived.LaidEql
import Derived.Stop.Asserts
import Derived.RowKitTokens
import Derived.Test.YtkclkmjlodomkaaGreatDoorMa
import Derived.Stop.IfaceNil
import Derived.Laws.Cover3
import Derived.RegionTactic
import Derived.Deep.QuietTactic
import Derived.BigQuiet
namespace Go.Proofs.YtkclkmjlodomkaaGreatDoor
open List (setIfInBounds_toArray getElem_toArray getElem_cons_succ getElem_cons_zero set_cons_succ set_cons_zero filterMap_cons filterMap_nil getElem?_toArray getElem?_cons_succ getElem?_cons_zero)
section
open Go.RowKit Go.Extern.Stop Go.Stop Go.Extern
abbrev tW : TypeId := 129
abbrev tE : TypeId := 205
noncomputable def nG : Nat := Tryz.prog.globals.size
theorem isTypeOfE (v : Value) (w : World) : (Extern.ReflectliteType.typeOf #[.iface 205 v]).run Tryz.prog w = .ok (.iface 182 (.agg #[.pointer (some ⟨nG, 205, none⟩)])) w := by kernel_rfl
theorem isComparableE (w : World) : ((Extern.ReflectliteType.method fun t => do Extern.Rtype.noPackHeld "Comparable" t; (fun a => Value.bool a.comparable) <$> typeInfo t) #[.agg #[.pointer (some ⟨nG, 205, none⟩)]]).run Tryz.prog w = .ok (.bool true) w := by kernel_rfl
theorem methodComparable (n : Nat) (v : Value) (w : World) : (Go.method (n + 1) 182 v "Comparable").run Tryz.prog w = .ok (140, v) w := by kernel_rfl
theorem isCompE : (Tryz.prog.info? 205).map (·.comparable) = some true := by kernel_rfl
theorem isSizeE : (Tryz.prog.info? 226).map (·.size) = some 1 := by kernel_rfl
theorem noIsE (v : Value) (xT : TypeId) (w : World) : (Instr.typeAssert (.iface 205 v) xT 184 true).run Tryz.prog w = .ok (.tuple #[.nilIface, .bool false]) w := run_typeAssert_lacksB Tryz.underlying184 (by kernel_rfl) (by kernel_rfl) v xT w
theorem noUnwrapE (v : Value) (xT : TypeId) (w : World) : (Instr.typeAssert (.iface 205 v) xT 187 true).run Tryz.prog w = .ok (.tuple #[.nilIface, .bool false]) w := run_typeAssert_lacksB Tryz.underlying187 (by kernel_rfl) (by kernel_rfl) v xT w
theorem noUnwrapsE (v : Value) (xT : TypeId) (w : World) : (Instr.typeAssert (.iface 205 v) xT 189 true).run Tryz.prog w = .ok (.tuple #[.nilIface, .bool false]) w := run_typeAssert_lacksB Tryz.underlying189 (by kernel_rfl) (by kernel_rfl) v xT w
theorem noIsW (v : Value) (xT : TypeId) (w : World) : (Instr.typeAssert (.iface 129 v) xT 184 true).run Tryz.prog w = .ok (.tuple #[.nilIface, .bool false]) w := run_typeAssert_lacksB Tryz.underlying184 (by kernel_rfl) (by kernel_rfl) v xT w
theorem hasUnwrapW (v : Value) (xT : TypeId) (w : World) : (Instr.typeAssert (.iface 129 v) xT 187 true).run Tryz.prog w = .ok (.tuple #[.iface 129 v, .bool true]) w := run_typeAssert_hasB Tryz.underlying187 (by kernel_rfl) v xT w
theorem methodUnwrap (n : Nat) (v : Value) (w : World) : (Go.method (n + 1) 129 v "Unwrap").run Tryz.prog w = .ok (134, v) w := by kernel_rfl
inductive Links (w : World) (sent : Value) : Value → Nat → Prop
  | last : Links w sent sent 0
  | more {g : Nat} {what v : Value} {n : Nat} : Blk w g 133 #[what, v] → Links w sent v n → Links w sent (.iface 129 (.pointer (some ⟨g, 0, none⟩))) (n + 1)
theorem Links.of_chain {w : World} {S : Nat → Prop} {sent e : Value} (h : Chain w S sent e) : ∃ n, Links w sent e (n + 1) := by
  induction h with
  | last h1 h2 h3 => exact ⟨0, .more h3 .last⟩
  | more h1 h2 h3 _ ih => obtain ⟨n, h⟩ := ih; exact ⟨n + 1, .more h3 h⟩
open Classical in
noncomputable def linksLeft (w : World) (sent : Value) (e : Value) : Nat := if h : ∃ n, Links w sent e n then h.choose else 0
theorem Links.same {w : World} {a : Addr} {e : Value} {n m : Nat} (h : Links w (.iface 205 (.pointer (some a))) e n) (k : Links w (.iface 205 (.pointer (some a))) e m) : n = m := by
  generalize hs : (Value.iface 205 (.pointer (some a))) = sent at h k
  induction h generalizing m with
  | last =>
    cases k with
    | last => rfl
    | more _ _ => injection hs with h1; exact absurd h1 (by decide)
  | @more g what v n hb h ih =>
    cases k with
    | last => injection hs with h1; exact absurd h1 (by decide)
    | @more _ what' v' n' hb' h' =>
      unfold Blk at hb hb'
      rw [hb] at hb'
      injection hb' with hb'
      injection hb' with hb'
      injection hb' with hb'
      injection hb' with h1 h2
      injection h2 with h2
      subst h2
      rw [ih h']
theorem linksLeft_eq {w : World} {a : Addr} {e : Value} {n : Nat} (h : Links w (.iface 205 (.pointer (some a))) e n) : linksLeft w (.iface 205 (.pointer (some a))) e = n := by
  unfold linksLeft
  rw [dif_pos ⟨n, h⟩]
  exact (Exists.choose_spec (⟨n, h⟩ : ∃ n, Links w _ e n)).same h
set_option maxRecDepth 1000000 in
theorem is_chain {w : World} (a b : Addr) (ca cb : Array Value) (ta tb : TypeId) (ha : w.heap[a.block]? = some (.cells ca ta (0, 0))) (hb : w.heap[b.block]? = some (.cells cb tb (0, 0))) {e : Value} {n : Nat} (h : Links w (.iface 205 (.pointer (some a))) e n) (r : Bool) (hr : r = decide (a = b)) :
    Calls Tryz.prog 101 #[e, .iface 205 (.pointer (some b)), .bool true] w fun en w' => en = .returned (.bool r) ∧ w' = w := by
  obtain ⟨i, hi, hcmp⟩ := Option.map_eq_some_iff.1 isCompE
  obtain ⟨j, hj, hjs⟩ := Option.map_eq_some_iff.1 isSizeE
  have nE := noIsE
  have uE := noUnwrapE
  have vE := noUnwrapsE
  have nW := noIsW
  have uW := hasUnwrapW
  have mU := methodUnwrap
  have HR := Lib.hid hr; clear hr
  have HA := Lib.hid ha; clear ha
  have HB := Lib.hid hb; clear hb
  go_enter Tryz.func101, Tryz.ntmps101
  go_wp2
  go_loopw [0] (fun e wl => wl = w ∧ ∃ n, Links w (.iface 205 (.pointer (some a))) e n) (fun e _ => linksLeft w (.iface 205 (.pointer (some a))) e)
  case atStart => exact ⟨rfl, n, h⟩
  case round =>
    obtain ⟨hw, n', hn⟩ := hrel
    subst hw
    cases hn with
    | last =>
      by_cases hab : a = b
      · subst hab
        have heq := run_eql_iface_ptr_same (P := Tryz.prog) wr a Tryz.underlying131 Tryz.underlying205 hi hcmp hj
        have HR2 := Lib.hid (HR.out.trans (decide_eq_true rfl))
        go_wp2
        go_ret
        exact ⟨by rw [HR2.out]; rfl, rfl⟩
      · have heq := run_eql_iface_ptr_other (P := Tryz.prog) wr Tryz.underlying131 Tryz.underlying205 hi hcmp hj (by rw [hjs]; decide) hab HA.out HB.out
        have HR2 := Lib.hid (HR.out.trans (decide_eq_false hab))
        go_wp2
        go_ret
        exact ⟨by rw [HR2.out]; rfl, rfl⟩
    | @more g what v m hblk hl =>
      have hty := run_eql_iface_types (P := Tryz.prog) 129 205 (.pointer (some ⟨g, 0, none⟩)) (.pointer (some b)) Tryz.underlying131 (by decide) wr
      have HL1 := Lib.hid (linksLeft_eq hl)
      have HL0 := Lib.hid (linksLeft_eq (Links.more hblk hl))
      have hne : ∃ u z, v = .iface u z := by cases hl <;> exact ⟨_, _, rfl⟩
      obtain ⟨u1, z1, rfl⟩ := hne
      have HL := Lib.hid hl
      have hcell := hblk.cell
      clear hl hblk
      go_wp2
      go_roundw
      case rel => exact ⟨trivial, m, HL.out⟩
      case measure =>
        rw [HL0.out]
        show linksLeft wr _ (Value.iface u1 z1) < m + 1
        rw [HL1.out]; omega
set_option maxRecDepth 1000000 in
theorem is_any {w : World} (a b : Addr) (ca cb : Array Value) (ta tb : TypeId) (ha : w.heap[a.block]? = some (.cells ca ta (0, 0))) (hb : w.heap[b.block]? = some (.cells cb tb (0, 0))) {g n : Nat} (h : Links w (.iface 205 (.pointer (some a))) (.iface 129 (.pointer (some ⟨g, 0, none⟩))) n) (r : Bool) (hr : r = decide (a = b)) :
    Calls Tryz.prog 88 #[.iface 129 (.pointer (some ⟨g, 0, none⟩)), .iface 205 (.pointer (some b))] w fun en w' => en = .returned (.bool r) ∧ w' = w := by
  have HI := Lib.hid (is_chain a b ca cb ta tb ha hb h r hr); clear ha hb h hr
  have h8 := @run_callFunc_extern Tryz.prog 100 _ Extern.ReflectliteType.typeOf Tryz.func100 (by kernel_rfl) (by kernel_rfl) (by kernel_rfl) (by kernel_rfl)
  have h32 := @run_callFunc_extern Tryz.prog 140 _ (Extern.ReflectliteType.method fun t => do Extern.Rtype.noPackHeld "Comparable" t; pure (.bool (← typeInfo t).comparable)) Tryz.func140 (by kernel_rfl) (by kernel_rfl) (by kernel_rfl) (by kernel_rfl)
  have tT := isTypeOfE
  have cT := isComparableE
  have mR := methodComparable
  go_enter Tryz.func88, Tryz.ntmps88
  go_wp2_with (go_at_call 101; refine HI.out.mono ?_; rintro e w' ⟨rfl, rfl⟩)
  go_ret
  exact ⟨rfl, rfl⟩
end
section
open Go.RowKit Go.Extern.Stop Go.Stop Go.Extern
theorem as_valueOf27 (t : Addr) (w : World) : (ReflectliteValue.unpack (.iface 152 (.pointer (some t)))).run Tryz.prog w
    = .ok (.agg #[.pointer (some ⟨nG, 152, none⟩), .pointer (some ⟨w.heap.size, 0, none⟩), .int .u64 150]) (w.alloc (.cells #[.pointer (some t)] 152)) := by kernel_rfl
theorem as_type27 (a : Addr) (w : World) : (ReflectliteValue.methodAny (ReflectliteValue.valueError "reflectlite.Value.Type" 0) (fun t _ _ _ => ReflectliteType.toType t) #[.agg #[.pointer (some ⟨nG, 152, none⟩), .pointer (some a), .int .u64 150]]).run Tryz.prog w
    = .ok (.iface 182 (.agg #[.pointer (some ⟨nG, 152, none⟩)])) w := by kernel_rfl
theorem as_methodKind (n : Nat) (h : Value) (w : World) : (Go.method (n + 1) 182 (.agg #[h]) "Kind").run Tryz.prog w = .ok (130, h) w := by kernel_rfl
theorem as_kind27 (w : World) : ((ReflectliteType.abiMethod fun t => (fun a : Nat => Value.int IntKind.u8 (a : Int)) <$> Rtype.kind t) #[.pointer (some ⟨nG, 152, none⟩)]).run Tryz.prog w = .ok (.int .u8 22) w := by kernel_rfl
theorem as_kind25 (w : World) : ((ReflectliteType.abiMethod fun t => (fun a : Nat => Value.int IntKind.u8 (a : Int)) <$> Rtype.kind t) #[.pointer (some ⟨nG, 129, none⟩)]).run Tryz.prog w = .ok (.int .u8 22) w := by kernel_rfl
theorem rlm (z : Sem Value) (f : TypeId → Addr → Nat → Nat → Sem Value) (v : Value) :
    ReflectliteValue.method z f #[v] = (do match ← ReflectliteValue.parts v with | none => z | some (t, a, fl) => f t a fl (fl % 32)) := rfl
theorem as_parts27 (a : Addr) (w : World) : (ReflectliteValue.parts (.agg #[.pointer (some ⟨nG, 152, none⟩), .pointer (some a), .int .u64 150])).run Tryz.prog w = .ok (some (152, a, 150)) w := by kernel_rfl
theorem as_isNil27 (a p : Addr) (W : World) (ha : W.cell? a = some (.pointer (some p))) :
    (ReflectliteValue.method (ReflectliteValue.valueError "reflectlite.Value.IsNil" 0) ReflectliteValue.isNil #[.agg #[.pointer (some ⟨nG, 152, none⟩), .pointer (some a), .int .u64 150]]).run Tryz.prog W = .ok (.bool false) W := by
  rw [rlm]
  simp only [Sem.run_bind, as_parts27, Result.andThen]
  simp [ReflectliteValue.isNil, loadVar, isAgg, underlying, Tryz.underlying152, ha, Result.andThen]
theorem as_methodElem (n : Nat) (h : Value) (w : World) : (Go.method (n + 1) 182 (.agg #[h]) "Elem").run Tryz.prog w = .ok (141, .agg #[h]) w := by kernel_rfl
theorem as_methodImplements (n : Nat) (h : Value) (w : World) : (Go.method (n + 1) 182 (.agg #[h]) "Implements").run Tryz.prog w = .ok (142, .agg #[h]) w := by kernel_rfl
theorem as_methodAssignableTo (n : Nat) (h : Value) (w : World) : (Go.method (n + 1) 182 (.agg #[h]) "AssignableTo").run Tryz.prog w = .ok (139, .agg #[h]) w := by kernel_rfl
theorem as_elem27 (w : World) : (ReflectliteType.method ReflectliteType.elem #[.agg #[.pointer (some ⟨nG, 152, none⟩)]]).run Tryz.prog w = .ok (.iface 182 (.agg #[.pointer (some ⟨nG, 129, none⟩)])) w := by kernel_rfl
theorem as_implements25 (w : World) : (ReflectliteType.relation "Implements" ReflectliteType.implements_ #[.agg #[.pointer (some ⟨nG, 129, none⟩)], .iface 182 (.agg #[.pointer (some ⟨nG, 131, none⟩)])]).run Tryz.prog w = .ok (.bool true) w := by kernel_rfl
theorem as_typeOf25 (v : Value) (w : World) : (ReflectliteType.typeOf #[.iface 129 v]).run Tryz.prog w = .ok (.iface 182 (.agg #[.pointer (some ⟨nG, 129, none⟩)])) w := by kernel_rfl
theorem as_assignable25 (w : World) : (ReflectliteType.relation "AssignableTo" ReflectliteType.assignableTo #[.agg #[.pointer (some ⟨nG, 129, none⟩)], .iface 182 (.agg #[.pointer (some ⟨nG, 129, none⟩)])]).run Tryz.prog w = .ok (.bool true) w := by kernel_rfl
theorem as_valueOf25 (e : Addr) (w : World) : (ReflectliteValue.unpack (.iface 129 (.pointer (some e)))).run Tryz.prog w
    = .ok (.agg #[.pointer (some ⟨nG, 129, none⟩), .pointer (some ⟨w.heap.size, 0, none⟩), .int .u64 150]) (w.alloc (.cells #[.pointer (some e)] 129)) := by kernel_rfl
theorem as_elemOf27 (w : World) : (Rtype.elem? 152).run Tryz.prog w = .ok (some 129) w := by kernel_rfl
theorem as_mk25 (p : Addr) (w : World) : (ReflectliteValue.mk 129 p ReflectliteValue.flagAddr).run Tryz.prog w = .ok (.agg #[.pointer (some ⟨nG, 129, none⟩), .pointer (some p), .int .u64 406]) w := by kernel_rfl
theorem as_elemV27 (a p : Addr) (W : World) (ha : W.cell? a = some (.pointer (some p))) :
    (ReflectliteValue.method (ReflectliteValue.valueError "reflectlite.Value.Elem" 0) ReflectliteValue.elem #[.agg #[.pointer (some ⟨nG, 152, none⟩), .pointer (some a), .int .u64 150]]).run Tryz.prog W
      = .ok (.agg #[.pointer (some ⟨nG, 129, none⟩), .pointer (some p), .int .u64 406]) W := by
  rw [rlm]
  simp only [Sem.run_bind, as_parts27, Result.andThen]
  simp [ReflectliteValue.elem, loadVar, isAgg, underlying, Tryz.underlying152, ha, Result.andThen, as_elemOf27, as_mk25]
theorem rls (v x : Value) : ReflectliteValue.set #[v, x] = (do
    let (some (dst, a, fl), some (src, b, _)) := (← ReflectliteValue.parts v, ← ReflectliteValue.parts x)
      | unsupported (.noEntry "extern/(internal/reflectlite.Value).Set.zeroValue")
    if fl / ReflectliteValue.flagAddr % 2 == 0 then unsupported (.noEntry "extern/(internal/reflectlite.Value).Set.unaddressable")
    let val ← loadVar src b
    if ← Rtype.directlyAssignable dst src then storeVar dst a val
    else if ← Rtype.implements dst src then
      if (← Rtype.kind src) == 20 then
        match val with
        | .nilIface => unsupported (.noEntry "extern/reflectlite: a nil value of one interface type handed on as a value of another")
        | _ => storeVar dst a val
      else storeVar dst a (.iface src val)
    else panicString ("reflectlite.Set: value of type " ++ (← Rtype.spelt src) ++ " is not assignable to type " ++ (← Rtype.spelt dst))
    pure (.tuple #[])) := rfl
theorem as_parts25a (a : Addr) (w : World) : (ReflectliteValue.parts (.agg #[.pointer (some ⟨nG, 129, none⟩), .pointer (some a), .int .u64 406])).run Tryz.prog w = .ok (some (129, a, 406)) w := by kernel_rfl
theorem as_parts25 (a : Addr) (w : World) : (ReflectliteValue.parts (.agg #[.pointer (some ⟨nG, 129, none⟩), .pointer (some a), .int .u64 150])).run Tryz.prog w = .ok (some (129, a, 150)) w := by kernel_rfl
theorem as_direct25 (w : World) : (Rtype.directlyAssignable 129 129).run Tryz.prog w = .ok true w := by kernel_rfl
theorem as_size25 (w : World) : (sizeOf 129).run Tryz.prog w = .ok 1 w := by kernel_rfl
theorem as_set25 (ta b e : Addr) (old : Value) (W : World) (hb : W.cell? b = some (.pointer (some e))) (ht : W.cell? ta = some old) (hf : W.frozen? ta = false) :
    (ReflectliteValue.set #[.agg #[.pointer (some ⟨nG, 129, none⟩), .pointer (some ta), .int .u64 406], .agg #[.pointer (some ⟨nG, 129, none⟩), .pointer (some b), .int .u64 150]]).run Tryz.prog W
      = .ok (.tuple #[]) (W.setCell ta (.pointer (some e))) := by
  rw [rls]
  simp only [Sem.run_bind, as_parts25a, as_parts25, Result.andThen]
  simp [ReflectliteValue.flagAddr, loadVar, isAgg, underlying, Tryz.underlying129, hb, Result.andThen, as_direct25, storeVar, Value.cells, storeCells, Addr.add]
  rw [run_store Tryz.prog W ta _ _ (by rfl)]
  simp [ht, hf]
set_option maxHeartbeats 4000000 in
theorem as_hit (e t : Addr) (old : Value) (w : World) (hg : w.cell? ⟨2, 0, none⟩ = some (.iface 182 (.agg #[.pointer (some ⟨nG, 131, none⟩)]))) (ht0 : w.cell? t = some old) (hf0 : w.frozen? t = false) :
    Calls Tryz.prog 89 #[.iface 129 (.pointer (some e)), .iface 152 (.pointer (some t))] w fun ev w' => ev = .returned (.bool true) ∧ w' = ((((w.alloc (.cells #[.pointer (some t)] 152)).alloc (.cells #[.pointer (some ⟨nG, 152, none⟩), .pointer (some ⟨w.heap.size, 0, none⟩), .int .u64 150] 169)).alloc (.cells #[.pointer (some ⟨nG, 152, none⟩), .pointer (some ⟨w.heap.size, 0, none⟩), .int .u64 150] 169)).alloc (.cells #[.pointer (some e)] 129)).setCell t (.pointer (some e)) := by
  have h6 := @run_callFunc_extern Tryz.prog 102 _ (fun args => ReflectliteValue.unpack (args.getD 0 (.tuple #[]))) Tryz.func102 (by kernel_rfl) (by kernel_rfl) (by kernel_rfl) (by kernel_rfl)
  have h7 := @run_callFunc_extern Tryz.prog 103 _ (ReflectliteValue.methodAny (ReflectliteValue.valueError "reflectlite.Value.Type" 0) (fun t _ _ _ => ReflectliteType.toType t)) Tryz.func103 (by kernel_rfl) (by kernel_rfl) (by kernel_rfl) (by kernel_rfl)
  have h8 := @run_callFunc_extern Tryz.prog 104 _ (ReflectliteValue.method (ReflectliteValue.valueError "reflectlite.Value.IsNil" 0) ReflectliteValue.isNil) Tryz.func104 (by kernel_rfl) (by kernel_rfl) (by kernel_rfl) (by kernel_rfl)
  have h27 := @run_callFunc_extern Tryz.prog 130 _ (ReflectliteType.abiMethod fun t => do pure (.int .u8 (← Rtype.kind t))) Tryz.func130 (by kernel_rfl) (by kernel_rfl) (by kernel_rfl) (by kernel_rfl)
  have h37 := @run_callFunc_extern Tryz.prog 141 _ (ReflectliteType.method ReflectliteType.elem) Tryz.func141 (by kernel_rfl) (by kernel_rfl) (by kernel_rfl) (by kernel_rfl)
  have h38 := @run_callFunc_extern Tryz.prog 142 _ (ReflectliteType.relation "Implements" ReflectliteType.implements_) Tryz.func142 (by kernel_rfl) (by kernel_rfl) (by kernel_rfl) (by kernel_rfl)
  have h10 := @run_callFunc_extern Tryz.prog 100 _ ReflectliteType.typeOf Tryz.func100 (by kernel_rfl) (by kernel_rfl) (by kernel_rfl) (by kernel_rfl)
  have h35 := @run_callFunc_extern Tryz.prog 139 _ (ReflectliteType.relation "AssignableTo" ReflectliteType.assignableTo) Tryz.func139 (by kernel_rfl) (by kernel_rfl) (by kernel_rfl) (by kernel_rfl)
  have h11 := @run_callFunc_extern Tryz.prog 110 _ (ReflectliteValue.method (ReflectliteValue.valueError "reflectlite.Value.Elem" 0) ReflectliteValue.elem) Tryz.func110 (by kernel_rfl) (by kernel_rfl) (by kernel_rfl) (by kernel_rfl)
  have h12 := @run_callFunc_extern Tryz.prog 111 _ ReflectliteValue.set Tryz.func111 (by kernel_rfl) (by kernel_rfl) (by kernel_rfl) (by kernel_rfl)
  have tO := as_typeOf25
  have mA := as_methodAssignableTo
  have a25 := as_assignable25
  have v25 := as_valueOf25
  have f6 := as_valueOf27
  have f7 := as_type27
  have mK := as_methodKind
  have mE := as_methodElem
  have mI := as_methodImplements
  have k27 := as_kind27
  have k25 := as_kind25
  have e27 := as_elem27
  have i25 := as_implements25
  have n8 := as_isNil27 ⟨w.heap.size, 0, none⟩ t ((w.alloc (.cells #[.pointer (some t)] 152)).alloc (.cells #[.pointer (some ⟨nG, 152, none⟩), .pointer (some ⟨w.heap.size, 0, none⟩), .int .u64 150] 169)) (by simp)
  have hlt : 2 < w.heap.size := by
    rcases Nat.lt_or_ge 2 w.heap.size with h | h0
    · exact h
    · simp only [World.cell?] at hg; rw [Array.getElem?_eq_none h0] at hg; cases hg
  have hg2 : ((w.alloc (.cells #[.pointer (some t)] 152)).alloc (.cells #[.pointer (some ⟨nG, 152, none⟩), .pointer (some ⟨w.heap.size, 0, none⟩), .int .u64 150] 169)).cell? ⟨2, 0, none⟩ = some (.iface 182 (.agg #[.pointer (some ⟨nG, 131, none⟩)])) := by
    rw [World.cell?_alloc_lt _ _ ⟨2, 0, none⟩ (by simp; omega), World.cell?_alloc_lt _ _ ⟨2, 0, none⟩ hlt]; exact hg
  have htl : t.block < w.heap.size := by
    rcases Nat.lt_or_ge t.block w.heap.size with h | h
    · exact h
    · simp [World.cell?, Array.getElem?_eq_none h] at ht0
  have el := as_elemV27 ⟨w.heap.size, 0, none⟩ t (((w.alloc (.cells #[.pointer (some t)] 152)).alloc (.cells #[.pointer (some ⟨nG, 152, none⟩), .pointer (some ⟨w.heap.size, 0, none⟩), .int .u64 150] 169)).alloc (.cells #[.pointer (some ⟨nG, 152, none⟩), .pointer (some ⟨w.heap.size, 0, none⟩), .int .u64 150] 169)) (by rw [World.cell?_alloc_lt _ _ ⟨w.heap.size, 0, none⟩ (by simp; omega)]; simp)
  have st := as_set25 t ⟨w.heap.size + 1 + 1 + 1, 0, none⟩ e old ((((w.alloc (.cells #[.pointer (some t)] 152)).alloc (.cells #[.pointer (some ⟨nG, 152, none⟩), .pointer (some ⟨w.heap.size, 0, none⟩), .int .u64 150] 169)).alloc (.cells #[.pointer (some ⟨nG, 152, none⟩), .pointer (some ⟨w.heap.size, 0, none⟩), .int .u64 150] 169)).alloc (.cells #[.pointer (some e)] 129))
    (by rw [World.cell?_alloc_at _ _ _ _ (by simp)]; rfl)
    (by rw [World.cell?_alloc_lt _ _ t (by simp; omega), World.cell?_alloc_lt _ _ t (by simp; omega), World.cell?_alloc_lt _ _ t (by simp; omega), World.cell?_alloc_lt _ _ t htl]; exact ht0)
    (by rw [World.frozen?_alloc_old _ _ t (by simp; omega), World.frozen?_alloc_old _ _ t (by simp; omega), World.frozen?_alloc_old _ _ t (by simp; omega), World.frozen?_alloc_old _ _ t (Nat.ne_of_lt htl)]; exact hf0)
  go_enter Tryz.func89, Tryz.ntmps89
  go_wp2
  refine wp_loop_rounds 1 ?_
  rw [rounds_succ]
  go_wp2
  go_ret
  exact ⟨rfl, rfl⟩
end
section
open Go.RowKit Go.Maps
theorem Bsr.tail {w : World} {S : Nat → Prop} {b off cap : Nat} {x : List UInt8} {rows : List (List UInt8)} (h : Bsr w S (.slice (some ⟨b, off, none⟩) (rows.length + 1) cap) (x :: rows)) : Bsr w S (.slice (some ⟨b, off + 1, none⟩) rows.length (cap - 1)) rows := by
  obtain ⟨vs, ⟨hl, A, c, e, hn, hc, hp⟩, h2⟩ := h
  injection e with e1 e2 e3
  subst e1 e3
  obtain ⟨b', off', e', hS, hlt, hcell⟩ := hp (by simp)
  injection e' with e'
  injection e' with e1 e2
  subst e1 e2
  obtain ⟨u, vs, rfl⟩ : ∃ u l, vs = u :: l := by
    cases vs with
    | nil => simp at hl
    | cons u l => exact ⟨u, l, rfl⟩
  simp only [List.length_cons] at hl hn
  refine ⟨vs, ⟨by omega, _, _, rfl, by omega, by omega, fun _ => ⟨b, off + 1, rfl, hS, hlt, fun j v hj => ?_⟩⟩, fun i y v h3 h4 => h2 (i + 1) y v h3 h4⟩
  have := hcell (j + 1) v hj
  rwa [show off + (j + 1) = off + 1 + j by omega] at this
theorem Bsr.none_ (w : World) (S : Nat → Prop) (A : Option Addr) {c : Nat} (hc : c ≤ maxLen) : Bsr w S (.slice A 0 c) [] :=
  ⟨[], ⟨by simp, A, c, rfl, Nat.zero_le _, hc, fun h => absurd h (Nat.lt_irrefl 0)⟩, fun i x u h => by simp at h⟩
theorem Bsr.cap_ {w : World} {S : Nat → Prop} {A : Option Addr} {n cap : Nat} {rows : List (List UInt8)} (h : Bsr w S (.slice A n cap) rows) : n ≤ cap ∧ cap ≤ maxLen := by
  obtain ⟨vs, ⟨_, _, _, e, hn, hc, _⟩, _⟩ := h
  injection e with e1 e2 e3
  subst e2 e3
  exact ⟨hn, hc⟩
theorem bad_any (w : World) {X : Nat → Prop} {E g : Nat} {sent e : Value} {rows : List (List UInt8)} {bad : Bool} (h : Pt w X E g sent rows bad) (hc : Chain w (fun b => ¬ X b ∧ E ≤ b) sent e) :
    Calls Tryz.prog 94 #[.pointer (some ⟨g, 0, none⟩), e] w fun en w' => en = .returned (.tuple #[]) ∧ Chg (fun k => k = g) w w' ∧ Pt w' X E g sent rows true := by
  obtain ⟨hg, hn, hx, hl, hE, v, e0, hb, hr, he⟩ := h
  obtain ⟨g', rfl⟩ := hc.form
  have HG := Lib.hid hg; clear hg
  have HR := Lib.hid hr; clear hr
  have HC := Lib.hid hc; clear hc
  obtain ⟨hcell, hfr⟩ := hb.rules
  have HB := Lib.hid hb; clear hb
  rcases he with ⟨rfl, rfl⟩ | ⟨rfl, he⟩
  · go_enter Tryz.func94, Tryz.ntmps94
    go_wp2
    go_end0
    have hch : Chg (fun k => k = g) w (w.setCell ⟨g, 1, none⟩ (.iface 129 (.pointer (some ⟨g', 0, none⟩)))) := (Chg.refl _ w).setIn 1 _
    exact ⟨rfl, hch, HG.out.chg hch fun h => hn (h ▸ hx), hn, hx, fun b h => by simpa using hl b h, by simpa using hE, v, _, HB.out.set_ 1 _, HR.out.chg hch fun b hb h => hb (h ▸ hx), .inr ⟨rfl, HC.out.chg hch fun b hb h => hb.1 (h ▸ hx)⟩⟩
  · obtain ⟨g'', rfl⟩ := he.form
    have HE := Lib.hid he; clear he
    go_enter Tryz.func94, Tryz.ntmps94
    go_wp2
    go_end0
    exact ⟨rfl, Chg.refl _ _, HG.out, hn, hx, hl, hE, v, _, HB.out, HR.out, .inr ⟨rfl, HE.out⟩⟩
theorem next_any (w : World) {X : Nat → Prop} {E g : Nat} {sent : Value} {x : List UInt8} {rows : List (List UInt8)} {bad : Bool} (h : Pt w X E g sent (x :: rows) bad) :
    Calls Tryz.prog 93 #[.pointer (some ⟨g, 0, none⟩)] w fun en w' => ∃ v, en = .returned v ∧ Bs w' (fun b => ¬ X b) v x ∧ Chg (fun k => k = g) w w' ∧ Pt w' X E g sent rows bad := by
  obtain ⟨hg, hn, hx, hl, hE, v, e0, hb, hr, he⟩ := h
  have HG := Lib.hid hg; clear hg
  have HE := Lib.hid he; clear he
  obtain ⟨hcell, hfr⟩ := hb.rules
  have HB := Lib.hid hb; clear hb
  obtain ⟨A, cap, rfl⟩ := hr.form
  obtain ⟨b, off, u, rfl, hu, hbs, hlt, hne⟩ := hr.at_ (k := 0) (by simp)
  have hu : w.cell? ⟨b, off, none⟩ = some u := hu
  have HBS := Lib.hid hbs; clear hbs
  have hcap := hr.cap_
  simp only [List.length_cons] at hcap
  obtain ⟨hc1, hc2⟩ := hcap
  have HR := Lib.hid hr; clear hr
  have HC2 := Lib.hid hc2; clear hc2
  have hch : ∀ z, Chg (fun k => k = g) w (w.setCell ⟨g, 0, none⟩ z) := fun z => (Chg.refl _ w).setIn 0 z
  have HCH := Lib.hid hch; clear hch
  have hfin : ∀ z, Bsr w (fun b => ¬ X b) z rows → (fun (en : Ending) w' => ∃ v, en = .returned v ∧ Bs w' (fun b => ¬ X b) v x ∧ Chg (fun k => k = g) w w' ∧ Pt w' X E g sent rows bad) (.returned u) (w.setCell ⟨g, 0, none⟩ z) := fun z hz =>
    ⟨u, rfl, HBS.out.chg (HCH.out z) fun b hb h => hb (h ▸ hx), HCH.out z, HG.out.chg (HCH.out z) fun h => hn (h ▸ hx), hn, hx, fun b h => by simpa using hl b h, by simpa using hE, z, e0, HB.out.set_ 0 z, hz.chg (HCH.out z) fun b hb h => hb (h ▸ hx), HE.out.to (fun b hb hl => ⟨by simpa using hl, (HCH.out z).block b hl fun h => hb.1 (h ▸ hx)⟩) fun _ h _ => h⟩
  have HF := Lib.hid hfin; clear hfin
  go_enter Tryz.func93, Tryz.ntmps93
  go_wp2
  · go_ret
    have h0 : rows = [] := List.eq_nil_of_length_eq_zero (by omega)
    subst h0
    exact HF.out _ (Bsr.none_ _ _ _ (Nat.zero_le _))
  · go_ret
    exact HF.out _ HR.out.tail
theorem Chain.fresh {w : World} {S : Nat → Prop} {sent : Value} (what : Value) (hS : S w.heap.size) : Chain (w.alloc (.cells #[what, sent] 133)) S sent (.iface 129 (.pointer (some ⟨w.heap.size, 0, none⟩))) :=
  .last hS (by simp) (Blk.new w _ _)
theorem Chain.freshMore {w : World} {S : Nat → Prop} {sent v : Value} (h : Chain w S sent v) (what : Value) (hS : S w.heap.size) : Chain (w.alloc (.cells #[what, v] 133)) S sent (.iface 129 (.pointer (some ⟨w.heap.size, 0, none⟩))) :=
  .more hS (by simp) (Blk.new w _ _) (h.low ((Below.refl _ w).alloc (Nat.le_refl _) _))
theorem run_make_bytes (n : Nat) (hn : n ≤ 1048576) (u : World) : (Instr.makeSlice 77 (.int .i64 n) (.int .i64 n)).run Tryz.prog u =
    .ok (.slice (some ⟨u.heap.size, 0, none⟩) n n) (u.alloc (.cells (u8s (List.replicate n 0)).toArray 5)) := by
  obtain ⟨i0, hi, hz0, hz1, hz2⟩ := info_parts info_u8
  have h := run_make (P := Tryz.prog) u 77 5 i0 (.int .u8 0) Tryz.underlying77 hi hz0 .i64 .i64 (n : Int) (n : Int) (by omega) (Int.le_refl _) (by rw [hz2]; omega) (by omega)
  simp only [Int.toNat_natCast] at h
  have e : madeCells (Value.int .u8 0).cells (n * i0.size) = (u8s (List.replicate n 0)).toArray := by
    apply Array.toList_inj.1
    rw [hz1, Nat.mul_one]
    exact (toList_madeCells_one _ _).trans (by simp [u8s])
  rw [h, e]
def Sized (w : World) (X : Nat → Prop) (E g : Nat) (sent : Value) (n : Nat) (x : List UInt8) (rows : List (List UInt8)) (bad : Bool) (en : Ending) (w' : World) : Prop :=
  ∃ v y bad', en = .returned v ∧ Bs w' (fun b => ¬ X b) v y ∧ y.length = n ∧ Chg (fun k => k = g) w w' ∧ Pt w' X E g sent rows bad' ∧ ((x.length = n ∧ y = x ∧ bad' = bad) ∨ (x.length ≠ n ∧ bad' = true))
theorem sized_any (w : World) {X : Nat → Prop} {E g : Nat} {sent : Value} {x : List UInt8} {rows : List (List UInt8)} {bad : Bool} (h : Pt w X E g sent (x :: rows) bad) (n : Nat) (hn : n ≤ 1000) :
    Calls Tryz.prog 92 #[.pointer (some ⟨g, 0, none⟩), .int .i64 n] w (Sized w X E g sent n x rows bad) := by
  have H := Lib.hid h; clear h
  by_cases hl : x.length = n
  · have HL := Lib.hid hl
    have hd : (((x.length : Nat) : Int) != (n : Int)) = false := by simp [hl]
    clear hl
    go_enter Tryz.func92, Tryz.ntmps92
    go_wp2_with fail
    refine (next_any _ H.out).mono ?_
    rintro e w1 ⟨v1, rfl, hb1, hc1, hp1⟩
    obtain ⟨A1, c1, rfl⟩ := hb1.form
    have HB1 := Lib.hid hb1
    have HP1 := Lib.hid hp1
    clear hb1 hp1
    go_wp2
    go_ret
    exact ⟨_, x, bad, rfl, HB1.out, HL.out, hc1, HP1.out, .inl ⟨HL.out, rfl, rfl⟩⟩
  · have HL := Lib.hid hl
    have hd : (((x.length : Nat) : Int) != (n : Int)) = true := by simp; omega
    clear hl
    go_enter Tryz.func92, Tryz.ntmps92
    go_wp2_with fail
    refine (next_any _ H.out).mono ?_
    rintro e w1 ⟨v1, rfl, hb1, hc1, hp1⟩
    obtain ⟨A1, c1, rfl⟩ := hb1.form
    have HB1 := Lib.hid hb1
    have HP1 := Lib.hid hp1
    obtain ⟨⟨sa, rfl⟩, hgl⟩ := hp1.1
    have hxl := hp1.2.2.2.1
    have hxE := hp1.2.2.2.2.1
    have hgl : w1.cell? ⟨gF, 0, none⟩ = some _ := hgl
    unfold gF at hgl
    clear hb1 hp1
    have hgs := HP1.out.lt
    have hp2 := HP1.out.below ((Below.refl w1.heap.size w1).alloc (Nat.le_refl _) (.cells #[.string ⟨#[97, 32, 112, 97, 114, 116]⟩, .iface 205 (.pointer (some sa))] 133))
    have hch : Chain (w1.alloc (.cells #[.string ⟨#[97, 32, 112, 97, 114, 116]⟩, .iface 205 (.pointer (some sa))] 133)) (fun b => ¬ X b ∧ E ≤ b) _ _ := Chain.fresh _ ⟨fun h => absurd (hxl _ h) (Nat.lt_irrefl _), hxE⟩
    have HB := Lib.hid (bad_any _ hp2 hch)
    clear hp2 hch hgs hxl hxE HP1 HB1 H
    have HMK := Lib.hid (run_make_bytes n (by omega))
    go_wp2_with fail
    refine HB.out.mono ?_
    rintro e w2 ⟨rfl, hc2, hp2⟩
    have HP2 := Lib.hid hp2; clear hp2
    have hmk := HMK.out w2
    go_wp2_with fail
    go_ret
    have hc3 := ((hc1.alloc _).trans hc2 fun b h => .inl h).alloc (.cells (u8s (List.replicate n 0)).toArray 5)
    have hb3 := Bs.of_new w2 5 (List.replicate n 0) (by rw [List.length_replicate]; omega) (0, 0)
    rw [List.length_replicate] at hb3
    have hlt := HP2.out.lt
    exact ⟨_, _, true, rfl, hb3.sub fun b hb _ h => by have := HP2.out.2.2.2.1 b h; omega, by simp, hc3, HP2.out.below ((Below.refl _ w2).alloc (Nat.le_refl _) _), .inr ⟨HL.out, rfl⟩⟩
def Uout (w : World) (X : Nat → Prop) (E g : Nat) (sent : Value) (x : List UInt8) (rows : List (List UInt8)) (bad : Bool) (en : Ending) (w' : World) : Prop :=
  ∃ (m : Nat) (bad' : Bool), en = .returned (.int .u64 m) ∧ m < 18446744073709551616 ∧ Chg (fun k => k = g) w w' ∧ Pt w' X E g sent rows bad' ∧ ((x.length = 8 ∧ m = Lib.beNat x ∧ bad' = bad) ∨ (x.length ≠ 8 ∧ bad' = true))
theorem u_any (w : World) {X : Nat → Prop} {E g : Nat} {sent : Value} {x : List UInt8} {rows : List (List UInt8)} {bad : Bool} (h : Pt w X E g sent (x :: rows) bad) :
    Calls Tryz.prog 78 #[.pointer (some ⟨g, 0, none⟩)] w (Uout w X E g sent x rows bad) := by
  have H := Lib.hid (sized_any w h 8 (by omega)); clear h
  go_enter Tryz.func78, Tryz.ntmps78
  go_wp2_with fail
  refine H.out.mono ?_
  rintro e w1 ⟨v, y, bad', rfl, hb1, hl1, hc1, hp1, hx⟩
  have hu := u64_any w1 hb1.1 (by omega)
  rw [List.take_of_length_le (by omega)] at hu
  have HU := Lib.hid hu
  have HP := Lib.hid hp1
  have HL := Lib.hid hl1
  have HX := Lib.hid hx
  clear hu hp1 hb1 hl1 hx
  go_wp2_with fail
  refine HU.out.mono ?_
  rintro e w2 ⟨rfl, rfl⟩
  go_wp2_with fail
  go_ret
  exact ⟨_, bad', rfl, beNat_lt8 _ HL.out, hc1, HP.out, HX.out.imp (fun ⟨h1, h2, h3⟩ => ⟨h1, by rw [h2], h3⟩) id⟩
theorem beTook (sg : Bool) {w : World} {X : Nat → Prop} {E g : Nat} {sent : Value} {x : List UInt8} {rows : List (List UInt8)} {bad : Bool} {w' : World} {m : Nat} {bad' : Bool} (hc : Chg (fun k => k = g) w w') (hp : Pt w' X E g sent rows bad')
    (hx : (x.length = 8 ∧ m = Lib.beNat x ∧ bad' = bad) ∨ (x.length ≠ 8 ∧ bad' = true)) : Took (.num sg) w X E g sent x rows bad (.returned (.int (nk sg) ((nk sg).wrap m))) w' := by
  refine ⟨[.int (nk sg) ((nk sg).wrap m)], bad', rfl, hc, hp, rfl, fun v hv => by obtain rfl := List.mem_singleton.1 hv; rfl, ?_⟩
  have hd : (Sh.num sg).dec x = if x.length = 8 then some ((nk sg).wrap (Lib.beNat x)) else none := rfl
  rw [hd]
  rcases hx with ⟨h1, h2, h3⟩ | ⟨h1, h2⟩
  · exact .inl ⟨_, if_pos h1, h3, by rw [h2], nk_wrap_wrap _ _⟩
  · exact .inr ⟨if_neg h1, h2⟩
theorem uTook_any (w : World) {X : Nat → Prop} {E g : Nat} {sent : Value} {x : List UInt8} {rows : List (List UInt8)} {bad : Bool} (h : Pt w X E g sent (x :: rows) bad) :
    Calls Tryz.prog 78 #[.pointer (some ⟨g, 0, none⟩)] w (Took u64 w X E g sent x rows bad) := by
  refine (u_any w h).mono ?_
  rintro e w' ⟨m, bad', rfl, hm, hc, hp, hx⟩
  have := beTook false hc hp hx
  rw [wrap_u, show (m : Int) % 18446744073709551616 = m by omega] at this
  exact this
theorem n_any (w : World) {X : Nat → Prop} {E g : Nat} {sent : Value} {x : List UInt8} {rows : List (List UInt8)} {bad : Bool} (h : Pt w X E g sent (x :: rows) bad) :
    Calls Tryz.prog 79 #[.pointer (some ⟨g, 0, none⟩)] w (Took i64 w X E g sent x rows bad) := by
  have H := Lib.hid (u_any w h); clear h
  go_enter Tryz.func79, Tryz.ntmps79
  go_wp2_with fail
  refine H.out.mono ?_
  rintro e w1 ⟨m, bad', rfl, hm, hc, hp, hx⟩
  have HX := Lib.hid (beTook true hc hp hx)
  clear hc hp hx
  go_wp2_with fail
  go_ret
  have := HX.out
  rw [nk_t, IntWalk.i64_left] at this
  exact this
theorem int_any (w : World) {X : Nat → Prop} {E g : Nat} {sent : Value} {x : List UInt8} {rows : List (List UInt8)} {bad : Bool} (h : Pt w X E g sent (x :: rows) bad) :
    Calls Tryz.prog 77 #[.pointer (some ⟨g, 0, none⟩)] w (Took i64 w X E g sent x rows bad) := by
  have H := Lib.hid (u_any w h); clear h
  go_enter Tryz.func77, Tryz.ntmps77
  go_wp2_with fail
  refine H.out.mono ?_
  rintro e w1 ⟨m, bad', rfl, hm, hc, hp, hx⟩
  have HX := Lib.hid (beTook true hc hp hx)
  clear hc hp hx
  go_wp2_with fail
  go_ret
  have := HX.out
  rw [nk_t, IntWalk.i64_left] at this
  exact this
attribute [-simp] Tryz.isAgg37 Tryz.typeInfo37
set_option maxRecDepth 100000 in
theorem pdigest_any (w : World) {X : Nat → Prop} {E g : Nat} {sent : Value} {x : List UInt8} {rows : List (List UInt8)} {bad : Bool} (h : Pt w X E g sent (x :: rows) bad) :
    Calls Tryz.prog 80 #[.pointer (some ⟨g, 0, none⟩)] w (Took .dig w X E g sent x rows bad) := by
  have hlx := h.2.2.2.1
  have hgx := h.2.2.1
  have hgw := h.lt
  have hp0 := h.more ((Below.refl w.heap.size w).alloc (Nat.le_refl _) (.cells (u8s (List.replicate 32 0)).toArray 37)) (fun b => b = w.heap.size) (fun b hb => ⟨Nat.le_of_eq hb.symm, by rw [hb]; simp⟩)
  have H := Lib.hid (sized_any _ hp0 32 (by omega)); clear h hp0
  go_enter Tryz.func80, Tryz.ntmps80
  go_wp2_with fail
  refine H.out.mono ?_
  rintro e w1 ⟨v, y, bad', rfl, hb1, hl1, hc1, hp1, hx⟩
  obtain ⟨A, cap, rfl⟩ := hb1.form
  obtain ⟨⟨_, A', cap', e', hn, hcap, hp⟩, _⟩ := hb1
  injection e' with e1 e2 e3
  subst e1 e3
  obtain ⟨b, off, rfl, hS, hlt, hcell⟩ := hp (by omega)
  have hr : w1.rangeAt b off (u8s y) := fun j u hu => hcell j u hu
  have HR := Lib.hid hr
  have HP := Lib.hid hp1
  have HX := Lib.hid hx
  have HL := Lib.hid hl1
  have hl2 : 32 ≤ y.length := by omega
  have hat : (Instr.arrayAt 37 (.slice (some ⟨b, off, none⟩) y.length cap)).run Tryz.prog w1 = .ok (.pointer (some ⟨b, off, none⟩)) w1 := run_arrayAt w1 _ 5 32 _ _ _ Tryz.underlying37 hl2
  have hb0 : Blk w1 w.heap.size 37 (u8s (List.replicate 32 0)).toArray := (Blk.new w _ _).chg hc1 fun h => by omega
  have HLX := Lib.hid hlx; clear hlx
  clear hcell hr hp1 hx hl1 hp
  go_wp2_with (first | (refine wpList_load_mid rfl 37 _ rfl b off rfl (u8s y) _ HR.out Tryz.underlying37 rfl (by rw [u8s_length, HL.out]; kernel_rfl) ?_) | (refine wpList_store_blk (cs0 := u8s (List.replicate 32 0)) (cs := u8s y) rfl 37 _ _ rfl hb0 rfl rfl (by rw [u8s_length, u8s_length, HL.out]; rfl) (by rw [u8s_length, HL.out]; kernel_rfl) (u8s_one _) ?_; intro w4 hb4 hc4; have HB4 := Lib.hid hb4; have HC4 := Lib.hid hc4; clear hb4 hc4))
  have hld := run_loadVar_mid (P := Tryz.prog) w4 w.heap.size 0 37 (u8s y) _ HB4.out.range Tryz.underlying37 rfl (by rw [u8s_length, HL.out]; kernel_rfl)
  have hch : Chg (fun k => k = g) w w4 := (((Chg.refl (fun k => k = g) w).alloc _).trans hc1 fun b h => .inl h).trans HC4.out fun b h => .inr (Nat.le_of_eq h.symm)
  have hng : g ≠ w.heap.size := by omega
  exact bodyPost_ret (v := .agg (u8s y).toArray) (by simp [results, Tryz.results80, asAddr, hld, Act.put]) rfl ⟨u8s y, bad', rfl, hch, (HP.out.chg HC4.out fun b h => ⟨.inr h, fun e => hng (e.symm.trans h)⟩).less (fun b h => .inl h) hgx,
    by rw [u8s_length, HL.out]; rfl, u8s_one _, HX.out.imp (fun ⟨h1, h2, h3⟩ => ⟨y, by rw [← h2]; exact if_pos HL.out, h3, rfl, HL.out⟩) fun ⟨h1, h2⟩ => ⟨if_neg h1, h2⟩⟩
end
section
open Go.RowKit Go.Maps
theorem Cs.cut {w : World} {S : Nat → Prop} {A : Option Addr} {m cap : Nat} {xs : List Value} (h : Cs w S 1 (.slice A m cap) m xs) (lo hi : Nat) (h1 : lo ≤ hi) (h2 : hi ≤ m) (hm : 0 < m) :
    ∃ A', (∀ w' : World, (Instr.sliceAt 77 (.slice A m cap) (some (.int .i64 lo)) (some (.int .i64 hi)) none).run Tryz.prog w' = .ok (.slice A' (hi - lo) (cap - lo)) w') ∧ Cs w S 1 (.slice A' (hi - lo) (cap - lo)) (hi - lo) ((xs.drop lo).take (hi - lo)) := by
  obtain ⟨hl, A0, cap0, e, hn, hc, hp⟩ := h
  injection e with e0 _ e2
  subst e0 e2
  obtain ⟨b, off, rfl, hS, hlt, hcell⟩ := hp hm
  refine ⟨if cap = lo then some ⟨b, off, none⟩ else some ⟨b, off + lo, none⟩, fun w' => ?_, ?_, _, _, rfl, by omega, by simp only [maxLen] at hc ⊢; omega, fun h0 => ?_⟩
  · have h3 : (lo : Int) ≤ (hi : Int) := by omega
    have h4 : (hi : Int) ≤ (cap : Int) := by omega
    go_simp
  · rw [List.length_take, List.length_drop, hl]; omega
  · rw [if_neg (by omega)]
    refine ⟨b, off + lo, rfl, hS, hlt, fun j u hu => ?_⟩
    rw [List.getElem?_take] at hu
    split at hu
    · rw [List.getElem?_drop] at hu
      rw [Nat.add_assoc]
      exact hcell _ u hu
    · cases hu
theorem Cs.tail {w : World} {S : Nat → Prop} {A : Option Addr} {m cap : Nat} {xs : List Value} (h : Cs w S 1 (.slice A m cap) m xs) (lo : Nat) (h1 : lo ≤ m) (hm : 0 < m) :
    ∃ A', (∀ w' : World, (Instr.sliceAt 77 (.slice A m cap) (some (.int .i64 lo)) none none).run Tryz.prog w' = .ok (.slice A' (m - lo) (cap - lo)) w') ∧ Cs w S 1 (.slice A' (m - lo) (cap - lo)) (m - lo) (xs.drop lo) := by
  obtain ⟨hl, A0, cap0, e, hn, hc, hp⟩ := h
  injection e with e0 _ e2
  subst e0 e2
  obtain ⟨b, off, rfl, hS, hlt, hcell⟩ := hp hm
  refine ⟨if cap = lo then some ⟨b, off, none⟩ else some ⟨b, off + lo, none⟩, fun w' => ?_, ?_, _, _, rfl, by omega, by simp only [maxLen] at hc ⊢; omega, fun h0 => ?_⟩
  · have h3 : (lo : Int) ≤ (m : Int) := by omega
    have h4 : (m : Int) ≤ (cap : Int) := by omega
    go_simp
  · rw [List.length_drop, hl]; omega
  · rw [if_neg (by omega)]
    refine ⟨b, off + lo, rfl, hS, hlt, fun j u hu => ?_⟩
    rw [List.getElem?_drop] at hu
    rw [Nat.add_assoc]
    exact hcell _ u hu
theorem Cs.pre {w : World} {S : Nat → Prop} {A : Option Addr} {m cap : Nat} {xs : List Value} (h : Cs w S 1 (.slice A m cap) m xs) (k : Nat) (hk : k ≤ m) : Cs w S 1 (.slice A k k) k (xs.take k) := by
  obtain ⟨hl, A0, cap0, e, hn, hc, hp⟩ := h
  injection e with e0 _ e2
  subst e0 e2
  refine ⟨by rw [List.length_take, hl]; omega, _, _, rfl, Nat.le_refl _, by omega, fun h0 => ?_⟩
  obtain ⟨b, off, e, hS, hlt, hcell⟩ := hp (by omega)
  refine ⟨b, off, e, hS, hlt, fun j u hu => ?_⟩
  rw [List.getElem?_take] at hu
  split at hu
  · exact hcell j u hu
  · cases hu
end
section
open Go.RowKit Go.Maps
def SplitOut (w : World) (bs : List UInt8) (e : Ending) (w' : World) : Prop :=
  Below w.heap.size w w' ∧ ((splitB bs = none ∧ e = .returned (.tuple #[.slice none 0 0, .bool false])) ∨ (∃ v' rows, splitB bs = some rows ∧ e = .returned (.tuple #[v', .bool true]) ∧ Bss w' (New w) (New w) v' rows))
theorem SplitOut.no {w w' : World} {bs : List UInt8} (hb : Below w.heap.size w w') (h : splitB bs = none) : SplitOut w bs (.returned (.tuple #[.slice none 0 0, .bool false])) w' := ⟨hb, .inl ⟨h, rfl⟩⟩
theorem cutB_zero (r : List UInt8) (h : 0 < r.length) : cutB 0 r = none := by
  unfold cutB
  rw [if_neg (fun e => by rw [e] at h; simp at h)]
theorem cutB_no (n : Nat) (r : List UInt8) (h : r.length < 8 ∨ r.length - 8 < Lib.beNat (r.take 8)) : cutB (n + 1) r = none := by
  unfold cutB
  rw [if_pos h]
theorem cutB_step (n : Nat) (r : List UInt8) (h : ¬ (r.length < 8 ∨ r.length - 8 < Lib.beNat (r.take 8))) : cutB (n + 1) r = (cutB n (r.drop (8 + Lib.beNat (r.take 8)))).map fun l => (r.drop 8).take (Lib.beNat (r.take 8)) :: l := by
  rw [cutB]
  rw [if_neg h]
theorem wrapI (n : Int) (h0 : -9223372036854775808 ≤ n) (h1 : n ≤ 9223372036854775807) : IntKind.i64.wrap n = n := by
  rw [show IntKind.i64 = nk true from rfl, wrap_s]; split <;> omega
theorem wrapU (n : Int) (h0 : 0 ≤ n) (h1 : n < 18446744073709551616) : IntKind.u64.wrap n = n := by
  rw [show IntKind.u64 = nk false from rfl, wrap_u]; omega
set_option maxHeartbeats 4000000 in
set_option maxRecDepth 100000 in
theorem split_any (w : World) {S : Nat → Prop} {v : Value} {bs : List UInt8} (h : Bs w S v bs) (hlen : bs.length ≤ 1099511627776) :
    Calls Tryz.prog 90 #[v] w (SplitOut w bs) := by
  replace h := h.sub (T := fun b => b < w.heap.size) (fun b _ hlt => hlt)
  obtain ⟨A, cap, rfl⟩ := h.form
  by_cases h8 : bs.length < 8
  · have hno : splitB bs = none := by unfold splitB; rw [if_pos (.inl h8)]
    have HNO := Lib.hid hno; clear hno h
    go_enter Tryz.func90, Tryz.ntmps90
    go_wp2
    go_ret2
    exact SplitOut.no (Below.refl _ _) HNO.out
  · have hu := u64_any w h.1 (by omega)
    obtain ⟨n, hn⟩ : ∃ n, n = Lib.beNat (bs.take 8) := ⟨_, rfl⟩
    rw [← hn] at hu
    obtain ⟨A1, hsl, hcs⟩ := h.1.tail 8 (by omega) (by omega)
    rw [show ((8 : Nat) : Int) = 8 from rfl] at hsl
    have hlt : n < 18446744073709551616 := by rw [hn]; exact beNat_lt8 _ (by rw [List.length_take]; omega)
    obtain ⟨m, hm⟩ : ∃ m, m = bs.length - 8 := ⟨_, rfl⟩
    rw [← hm] at hsl hcs
    obtain ⟨c1, hc1⟩ : ∃ c1, c1 = cap - 8 := ⟨_, rfl⟩
    rw [← hc1] at hsl hcs
    have hsp : splitB bs = if m / 8 < n then none else cutB n (bs.drop 8) := by
      unfold splitB
      rw [← hn, ← hm]
      by_cases h0 : m / 8 < n
      · rw [if_pos h0, if_pos (.inr h0)]
      · rw [if_neg h0, if_neg (by omega)]
    have hmb : m ≤ 1099511627776 := by omega
    have hml : (bs.drop 8).length = m := by rw [List.length_drop, hm]
    rw [show (u8s bs).drop 8 = u8s (bs.drop 8) by simp [u8s, List.map_drop]] at hcs
    have h8' : 8 ≤ bs.length := by omega
    have hbl : bs.length ≤ 1099511627776 := hlen
    obtain ⟨L, hL⟩ : ∃ L, L = bs.length := ⟨_, rfl⟩
    rw [← hL] at hsl hu h8' hbl ⊢
    have HU := Lib.hid hu
    have HN := Lib.hid hn
    have HM := Lib.hid hm
    have HL := Lib.hid hL
    have HML := Lib.hid hml
    have HCS := Lib.hid hcs
    have HSP := Lib.hid hsp
    have hwu := wrapU (m : Int) (by omega) (by omega)
    clear hu hn hm hml hcs hsp hc1 hL h hlen h8
    by_cases hbig : m / 8 < n
    · have hbI : ((m : Int) / 8) < (n : Int) := by omega
      have HSP2 := Lib.hid (HSP.out.trans (if_pos hbig))
      go_enter Tryz.func90, Tryz.ntmps90
      go_wp2_with fail
      refine HU.out.mono ?_
      rintro e w1 ⟨rfl, hw1⟩
      obtain rfl := hw1.symm
      go_wp2_with fail
      go_ret2
      exact SplitOut.no (Below.refl _ _) HSP2.out
    · have hbI : ¬ ((m : Int) / 8) < (n : Int) := by omega
      have HSP2 := Lib.hid (HSP.out.trans (if_neg hbig))
      go_enter Tryz.func90, Tryz.ntmps90
      go_wp2_with fail
      refine HU.out.mono ?_
      rintro e w1 ⟨rfl, hw1⟩
      obtain rfl := hw1.symm
      go_wp2_with fail
      have hnm8 : n ≤ m / 8 := by omega
      go_loopw [0, 5, 21] (fun v o i wr => ∃ (k : Nat) (done : List (List UInt8)) (r : List UInt8), k ≤ n ∧ i = .int .u64 k ∧ Cs wr (fun b => b < w.heap.size) 1 v r.length (u8s r) ∧ r.length ≤ m ∧ Bss wr (New w) (New w) o done ∧ done.length = k ∧ Below w.heap.size w wr ∧ splitB bs = (cutB (n - k) r).map (fun l => done ++ l)) (fun _ _ i _ => n - (intOf i).toNat)
      case atStart => exact ⟨0, [], bs.drop 8, Nat.zero_le _, rfl, by rw [HML.out]; exact HCS.out, Nat.le_of_eq HML.out, Bss.nil_ _ _ _, rfl, Below.refl _ _, by rw [HSP2.out, Nat.sub_zero]; simp⟩
      case round =>
        obtain ⟨k, done, r, hk, rfl, hcr, hrm, hbss, hdk, hbl2, hps⟩ := hrel
        obtain ⟨Ar, cr, rfl⟩ := hcr.form
        obtain ⟨q, hq⟩ : ∃ q, q = r.length := ⟨_, rfl⟩
        rw [← hq] at hcr hrm ⊢
        have HPS := Lib.hid hps; clear hps
        have HDK := Lib.hid hdk; clear hdk
        have HQ := Lib.hid hq; clear hq
        obtain ⟨Ao, co, rfl⟩ := hbss.form
        by_cases hkn : k < n
        · have hnk : n - k = (n - k - 1) + 1 := by omega
          have HNK := Lib.hid hnk; clear hnk
          by_cases hr8 : q < 8
          · have hno := Lib.hid (cutB_no (n - k - 1) r (.inl (by rw [← HQ.out]; exact hr8)))
            clear hbss hcr
            go_wp2
            go_ret2
            exact SplitOut.no hbl2 (by rw [HPS.out, HNK.out, hno.out]; rfl)
          · have hu := u64_any wr (bs := r) (by rw [← HQ.out]; exact hcr) (by rw [← HQ.out]; omega)
            obtain ⟨y, hy⟩ : ∃ y, y = Lib.beNat (r.take 8) := ⟨_, rfl⟩
            rw [← hy] at hu
            have HU := Lib.hid hu; clear hu
            have HY := Lib.hid hy; clear hy
            have hylt : y < 18446744073709551616 := by rw [HY.out]; exact beNat_lt8 _ (by rw [List.length_take, ← HQ.out]; omega)
            have e1 : IntKind.u64.wrap ((q : Int) - 8) = (q : Int) - 8 := wrapU _ (by omega) (by omega)
            by_cases hby : q - 8 < y
            · have hbyI : (q : Int) - 8 < (y : Int) := by omega
              have hno := Lib.hid (cutB_no (n - k - 1) r (.inr (by rw [← HQ.out, ← HY.out]; exact hby)))
              clear hbss hcr
              go_wp2_with fail
              refine HU.out.mono ?_
              rintro e w2 ⟨rfl, rfl⟩
              go_wp2_with fail
              go_ret2
              exact SplitOut.no hbl2 (by rw [HPS.out, HNK.out, hno.out]; rfl)
            · have hbyI : ¬ (q : Int) - 8 < (y : Int) := by omega
              have hst := Lib.hid (cutB_step (n - k - 1) r (by rw [← HQ.out, ← HY.out]; omega))
              go_wp2_with fail
              refine HU.out.mono ?_
              rintro e w2 ⟨rfl, hw2⟩
              obtain rfl := hw2.symm
              have e2 : IntKind.i64.wrap (y : Int) = y := wrapI _ (by omega) (by omega)
              have e3 : IntKind.i64.wrap (8 + (y : Int)) = 8 + (y : Int) := wrapI _ (by omega) (by omega)
              have hnm2 : 8 + y ≤ q := by omega
              obtain ⟨A4, hr4, hc4⟩ := hcr.cut 8 (8 + y) (by omega) hnm2 (by omega)
              obtain ⟨A5, hr5, hc5⟩ := hcr.tail (8 + y) hnm2 (by omega)
              have ec : ((8 + y : Nat) : Int) = 8 + (y : Int) := by push_cast; rfl
              rw [ec] at hr4 hr5
              rw [show ((8 : Nat) : Int) = 8 from rfl] at hr4
              rw [show 8 + y - 8 = y by omega] at hr4 hc4
              have HC4 := Lib.hid hc4; clear hc4
              have HC5 := Lib.hid hc5; clear hc5 ec
              obtain ⟨x, hx⟩ : ∃ x, x = (r.drop 8).take y := ⟨_, rfl⟩
              have hxl : x.length = y := by rw [hx, List.length_take, List.length_drop, ← HQ.out]; omega
              have hxc : ((u8s r).drop 8).take y = u8s x := by rw [hx]; simp [u8s, List.map_take, List.map_drop]
              rw [hxc] at HC4
              have HX := Lib.hid hx; clear hx
              have HXL := Lib.hid hxl; clear hxl hxc
              have HBSS := Lib.hid hbss
              obtain ⟨vs, hoo, hoS, hoR⟩ := hbss
              have hdl : done.length ≤ 274877906944 := by rw [HDK.out]; omega
              have h63 : 0 + y ≤ maxLen := by simp only [maxLen]; omega
              have hby1 : (0 + y) * 1 ≤ 140737488355328 := by omega
              have h63b : done.length + 1 ≤ maxLen := by simp only [maxLen]; omega
              have hby2 : (done.length + 1) * 24 ≤ 140737488355328 := by omega
              have H63 := Lib.hid (And.intro h63 (And.intro hby1 (And.intro h63b hby2))); clear h63 hby1 h63b hby2
              have HOO := Lib.hid hoo; clear hoo
              have HOR := Lib.hid hoR; clear hoR
              have HOS := Lib.hid hoS; clear hoS
              go_wp2_with fail
              refine HU.out.mono ?_
              rintro x1 w3 ⟨rfl, hw3⟩
              obtain rfl := hw3.symm
              clear e1
              go_wp2_with (first
                | (at_builtin; refine wpList_app _ rfl _ _ _ rfl Tryz.underlying77 info_u8 rfl (by decide) (Own.nil_ _ _ _) rfl HC4.out rfl (u8s_one _) H63.out.1 H63.out.2.1 ?_; intro v1 w5 ho5 hc5 hnil5 hat5; clear hnil5
                   have hb5 : Below wr.heap.size wr w5 := hc5.below (Nat.le_refl _) fun b hb => by simp [Value.ownBlock] at hb
                   rw [Nat.zero_add, List.nil_append] at ho5
                   have ho5' : Own w5 5 1 v1 y (u8s x) := ho5
                   clear ho5 hc5
                   obtain ⟨A6, cap6, rfl⟩ := ho5'.form
                   have HO5 := Lib.hid ho5'; clear ho5'
                   have HAT5 := Lib.hid hat5; clear hat5
                   have HO2 := Lib.hid (show ∀ ob, Own (w5.alloc ob) 77 1 (.slice Ao done.length co) done.length vs from fun ob => own_keep HOO.out fun k hk => (Below.heap_alloc w5 ob k (ltle (own_lt HOO.out hk) hb5.size)).trans (hb5.block k (own_lt HOO.out hk)))
                   have HS2 := Lib.hid (Cs.of_new w5 77 (size := 1) 1 (cs := [.slice A6 y cap6]) rfl (by simp only [maxLen]; decide))
                   have HB5 := Lib.hid hb5; clear hb5)
                | (at_builtin; refine wpList_app _ rfl _ _ _ rfl Tryz.underlying107 info_row rfl (by decide) (HO2.out _) rfl HS2.out rfl (by simp [Value.oneCell']) H63.out.2.2.1 H63.out.2.2.2 ?_; intro v2 w6 ho6 hc6 hnil6 hat6; clear hnil6
                   obtain ⟨A7, cap7, rfl⟩ := ho6.form
                   have HO6 := Lib.hid ho6; clear ho6
                   have HC6 := Lib.hid hc6; clear hc6
                   have HAT6 := Lib.hid hat6; clear hat6))
              have hs5 := HB5.out.size
              have hsM := hbl2.size
              have hown5 : ∀ k, (Value.slice A6 y cap6).ownBlock = some k → k = wr.heap.size := fun k hk => by
                rcases HAT5.out with e | e
                · rw [e] at hk; simp [Value.ownBlock] at hk
                · rw [e] at hk; injection hk with hk; exact hk.symm
              have hox : ∀ k, (Value.slice Ao done.length co).ownBlock = some k → k < wr.heap.size := fun k hk => own_lt HOO.out hk
              have hal : w5.heap.size ≤ (w5.alloc (.cells #[.slice A6 y cap6] 77)).heap.size := by simp
              have hbX : Below wr.heap.size wr (w5.alloc (.cells #[.slice A6 y cap6] 77)) := HB5.out.alloc hs5 _
              have hxv : Cs (w5.alloc (.cells #[.slice A6 y cap6] 77)) (fun b => New w b ∧ (Value.slice Ao done.length co).ownBlock ≠ some b) 1 (.slice A6 y cap6) x.length (u8s x) := by
                rw [HXL.out]
                exact (Cs.of_own HO5.out (S := fun b => New w b ∧ (Value.slice Ao done.length co).ownBlock ≠ some b) fun k hk => by
                  have := hown5 k hk
                  subst this
                  exact ⟨hsM, fun e => by have := hox _ e; omega⟩).below ((Below.refl _ w5).alloc (Nat.le_refl _) _)
              have hpush := Bss.push (S := New w) (T := New w) (HO2.out _) HOS.out (fun i y u h1 h2 => (HOR.out i y u h1 h2).below hbX) hxv HO6.out HC6.out HAT6.out (Nat.le_trans hsM (Nat.le_trans hs5 hal))
              have hrl : (r.drop (8 + y)).length = q - (8 + y) := by rw [List.length_drop, ← HQ.out]
              have h1 : Below w.heap.size w (w5.alloc (.cells #[.slice A6 y cap6] 77)) := hbl2.trans (hbX.mono hsM)
              refine ⟨⟨k + 1, done ++ [x], r.drop (8 + y), by omega, by push_cast; rfl, ?_, by rw [hrl]; omega, hpush, by rw [List.length_append, HDK.out]; rfl, h1.trans (HC6.out.below h1.size fun k hk => HOS.out k hk), ?_⟩, ?_⟩
              · have := HC5.out
                rw [show (u8s r).drop (8 + y) = u8s (r.drop (8 + y)) by simp [u8s, List.map_drop]] at this
                rw [hrl]
                exact (this.below hbX).chg HC6.out fun b hb hk => by have := HOS.out b hk; omega
              · rw [HPS.out, HNK.out, hst.out, ← HY.out, ← HX.out, Option.map_map, show n - k - 1 = n - (k + 1) by omega]
                congr 1
                funext l
                simp
              · simp only [intOf]; omega
        · have hkn' : k = n := by omega
          by_cases hr0 : 0 < q
          · have hno := Lib.hid (cutB_zero r (by rw [← HQ.out]; exact hr0))
            clear hbss hcr
            go_wp2
            go_ret2
            exact SplitOut.no hbl2 (by rw [HPS.out, hkn', Nat.sub_self, hno.out]; rfl)
          · have hr : r = [] := List.eq_nil_of_length_eq_zero (by rw [← HQ.out]; omega)
            have HR := Lib.hid hr
            have HB := Lib.hid hbss
            have HKN := Lib.hid hkn'
            clear hbss hcr hr hkn'
            go_wp2
            go_ret2
            exact ⟨hbl2, .inr ⟨_, done, by rw [HPS.out, HKN.out, Nat.sub_self, HR.out]; simp [cutB], rfl, HB.out⟩⟩
end
section
open Go.RowKit Go.Maps
theorem pbytes_any (w : World) {X : Nat → Prop} {E g : Nat} {sent : Value} {x : List UInt8} {rows : List (List UInt8)} {bad : Bool} (h : Pt w X E g sent (x :: rows) bad) :
    Calls Tryz.prog 97 #[.pointer (some ⟨g, 0, none⟩)] w (Took .byt w X E g sent x rows bad) := by
  have H := Lib.hid (next_any w h); clear h
  go_enter Tryz.func97, Tryz.ntmps97
  go_wp2_with fail
  refine H.out.mono ?_
  rintro e w1 ⟨v, rfl, hb, hc, hp⟩
  have h63 : 0 + x.length ≤ maxLen := by have := hb.2; simp only [maxLen]; omega
  have hby : (0 + x.length) * 1 ≤ 140737488355328 := by have := hb.2; omega
  have HB := Lib.hid hb
  have HP := Lib.hid hp
  have HH := Lib.hid (And.intro h63 hby)
  clear hb hp h63 hby
  go_wp2_with (at_builtin; refine wpList_app _ rfl _ _ _ rfl Tryz.underlying77 info_u8 rfl (by decide) (Own.nil_ _ _ _) rfl HB.out.1 rfl (u8s_one _) HH.out.1 HH.out.2 ?_; intro v2 w2 ho2 hc2 hn2 hat2; clear hn2; have HO := Lib.hid ho2; clear ho2; have HC := Lib.hid hc2; clear hc2; have HAT := Lib.hid hat2; clear hat2)
  go_ret
  have hb2 : Below w1.heap.size w1 w2 := HC.out.below (Nat.le_refl _) fun b hb => by simp [Value.ownBlock] at hb
  have ho := HO.out
  rw [Nat.zero_add, List.nil_append] at ho
  have hown : ∀ k, v2.ownBlock = some k → w.heap.size ≤ k := fun k hk => by
    rcases HAT.out with e | e
    · rw [e] at hk; simp [Value.ownBlock] at hk
    · rw [e] at hk; injection hk with hk; have := hc.size; omega
  have hrow : Bs w2 (Nw w.heap.size w2) v2 x := ⟨Cs.of_own ho fun k hk => ⟨hown k hk, own_th ho hk⟩, HB.out.2⟩
  obtain ⟨A2, c2, rfl⟩ := hrow.form
  exact ⟨[.slice A2 x.length c2], bad, rfl, hc.trans (Chg.of_below hb2 fun k => k = g) fun b h => .inl h, HP.out.below hb2, rfl, fun v hv => by obtain rfl := List.mem_singleton.1 hv; rfl, .inl ⟨x, rfl, rfl, _, rfl, hrow⟩⟩
theorem ptruth_any (w : World) {X : Nat → Prop} {E g : Nat} {sent : Value} {x : List UInt8} {rows : List (List UInt8)} {bad : Bool} (h : Pt w X E g sent (x :: rows) bad) :
    Calls Tryz.prog 98 #[.pointer (some ⟨g, 0, none⟩)] w (Took .bool w X E g sent x rows bad) := by
  have H := Lib.hid (sized_any w h 1 (by omega)); clear h
  go_enter Tryz.func98, Tryz.ntmps98
  go_wp2_with fail
  refine H.out.mono ?_
  rintro e w1 ⟨v, y, bad', rfl, hb1, hl1, hc1, hp1, hx⟩
  obtain ⟨c, rfl⟩ : ∃ c, y = [c] := by
    cases y with
    | nil => simp at hl1
    | cons c l => cases l with
      | nil => exact ⟨c, rfl⟩
      | cons d l => simp at hl1
  obtain ⟨⟨_, A, cap, rfl, hn, hcap, hp⟩, _⟩ := hb1
  obtain ⟨b, off, rfl, hS, hlt, hcell⟩ := hp (by simp)
  have hc0 : w1.cell? ⟨b, off, none⟩ = some (.int .u8 c.toNat) := hcell 0 _ rfl
  have HP := Lib.hid hp1
  have HX := Lib.hid hx
  have hc256 := c.toNat_lt
  obtain ⟨m, hm⟩ : ∃ m, m = c.toNat := ⟨_, rfl⟩
  rw [← hm] at hc0 hc256
  have HM := Lib.hid hm
  clear hp1 hx hl1 hp hcell hm
  by_cases h1 : 1 < m
  · obtain ⟨⟨sa, rfl⟩, hgl⟩ := HP.out.1
    have hgl : w1.cell? ⟨gF, 0, none⟩ = some _ := hgl
    unfold gF at hgl
    have hxl := HP.out.2.2.2.1
    have hxE := HP.out.2.2.2.2.1
    have hp2 := HP.out.below ((Below.refl w1.heap.size w1).alloc (Nat.le_refl _) (.cells #[.string ⟨#[97, 32, 116, 114, 117, 116, 104, 32, 118, 97, 108, 117, 101]⟩, .iface 205 (.pointer (some sa))] 133))
    have hch : Chain (w1.alloc (.cells #[.string ⟨#[97, 32, 116, 114, 117, 116, 104, 32, 118, 97, 108, 117, 101]⟩, .iface 205 (.pointer (some sa))] 133)) (fun b => ¬ X b ∧ E ≤ b) _ _ := Chain.fresh _ ⟨fun h => absurd (hxl _ h) (Nat.lt_irrefl _), hxE⟩
    have HB := Lib.hid (bad_any _ hp2 hch)
    have hd : ((m : Int) == 1) = false := by simp; omega
    have h1I : (1 : Int) < m := by omega
    clear hp2 hch hxl hxE H
    go_wp2_with fail
    refine HB.out.mono ?_
    rintro e w2 ⟨rfl, hc2, hp2⟩
    have HP2 := Lib.hid hp2; clear hp2
    go_wp2_with fail
    go_ret
    refine ⟨[.bool false], true, rfl, (hc1.alloc _).trans hc2 fun b h => .inl h, HP2.out, rfl, fun v hv => by obtain rfl := List.mem_singleton.1 hv; rfl, .inr ⟨?_, rfl⟩⟩
    have hd : Sh.bool.dec x = if x = [0] then some false else if x = [1] then some true else none := rfl
    rw [hd]
    have hxx : ∀ k : UInt8, k.toNat ≤ 1 → x ≠ [k] := fun k hk e => by
      rcases HX.out with ⟨_, h2, _⟩ | ⟨h2, _⟩
      · rw [← h2] at e; injection e with e; rw [HM.out, e] at h1; omega
      · rw [e] at h2; exact h2 rfl
    rw [if_neg (hxx 0 (by decide)), if_neg (hxx 1 (by decide))]
  · have h1I : ¬ (1 : Int) < m := by omega
    go_wp2_with fail
    go_ret
    refine ⟨[.bool ((m : Int) == 1)], bad', rfl, hc1, HP.out, rfl, fun v hv => by obtain rfl := List.mem_singleton.1 hv; rfl, ?_⟩
    have hd : Sh.bool.dec x = if x = [0] then some false else if x = [1] then some true else none := rfl
    rw [hd]
    rcases HX.out with ⟨_, h2, h3⟩ | ⟨h2, h3⟩
    · have hm := HM.out
      rcases Nat.lt_or_ge m 1 with h0 | h0
      · have hm0 : m = 0 := by omega
        have hc : c = 0 := by rw [← UInt8.toNat_inj, ← hm, hm0]; rfl
        subst hc
        rw [if_pos h2.symm]
        refine .inl ⟨false, rfl, h3, ?_⟩
        rw [hm0]; rfl
      · have hm0 : m = 1 := by omega
        have hc : c = 1 := by rw [← UInt8.toNat_inj, ← hm, hm0]; rfl
        subst hc
        rw [if_neg (by rw [← h2]; decide), if_pos h2.symm]
        refine .inl ⟨true, rfl, h3, ?_⟩
        rw [hm0]; rfl
    · rw [if_neg (fun e => by rw [e] at h2; exact h2 rfl), if_neg (fun e => by rw [e] at h2; exact h2 rfl)]
      exact .inr ⟨rfl, h3⟩
theorem joinP_mem_le {l : List (List UInt8)} {b : List UInt8} (h : splitB b = some l) : ∀ x ∈ l, x.length ≤ b.length := fun x hx => by
  have h1 := splitB_back h
  have h2 := joinP_mem hx
  rw [← h1, joinB_length]; omega
def Start (w : World) (sent : Value) (b : List UInt8) (n : Nat) (en : Ending) (w' : World) : Prop :=
  ∃ g rows bad, en = .returned (.pointer (some ⟨g, 0, none⟩)) ∧ w.heap.size ≤ g ∧ Below w.heap.size w w' ∧ Pt w' (fun b => b = g) w.heap.size g sent rows bad ∧ rows.length = n ∧ (∀ x ∈ rows, x.length ≤ b.length) ∧ ((bad = false ∧ splitB b = some rows) ∨ (bad = true ∧ ∀ l, splitB b = some l → l.length ≠ n))
theorem run_make_rows (n : Nat) (hn : n ≤ 1048576) (u : World) : (Instr.makeSlice 107 (.int .i64 n) (.int .i64 n)).run Tryz.prog u =
    .ok (.slice (some ⟨u.heap.size, 0, none⟩) n n) (u.alloc (.cells (List.replicate n (.slice none 0 0)).toArray 77)) := by
  obtain ⟨i0, hi, hz0, hz1, hz2⟩ := info_parts info_row
  have h := run_make (P := Tryz.prog) u 107 77 i0 (.slice none 0 0) Tryz.underlying107 hi hz0 .i64 .i64 (n : Int) (n : Int) (by omega) (Int.le_refl _) (by rw [hz2]; omega) (by omega)
  simp only [Int.toNat_natCast] at h
  have e : madeCells (Value.slice none 0 0).cells (n * i0.size) = (List.replicate n (Value.slice none 0 0)).toArray := by
    apply Array.toList_inj.1
    rw [hz1, Nat.mul_one]
    exact toList_madeCells_one _ _
  rw [h, e]
theorem Bsr.empties (w : World) (n : Nat) (hn : n ≤ 1000) (S : Nat → Prop) (hS : S w.heap.size) : Bsr (w.alloc (.cells (List.replicate n (.slice none 0 0)).toArray 77)) S (.slice (some ⟨w.heap.size, 0, none⟩) n n) (List.replicate n []) := by
  have hc := Cs.of_new w 77 (size := 1) n (cs := List.replicate n (.slice none 0 0)) (by simp) (by simp only [maxLen]; omega)
  refine ⟨List.replicate n (.slice none 0 0), by rw [List.length_replicate]; exact hc.sub fun b hb _ => hb ▸ hS, fun i x u h1 h2 => ?_⟩
  rw [List.getElem?_replicate] at h1 h2
  split at h1
  · injection h1 with h1
    rw [if_pos (by assumption)] at h2
    injection h2 with h2
    subst h1 h2
    exact Bs.nil_ _ _
  · cases h1
theorem Start.mk {w W : World} {sent : Value} {bs : List UInt8} {n g : Nat} {v e : Value} {rows : List (List UInt8)} {bad : Bool} (hb : Below w.heap.size w W) (hgw : w.heap.size ≤ g) (hgl : Gl w sent) (hblk : Blk W g 144 #[v, e])
    (hr : Bsr W (fun b => ¬ b = g) v rows) (he : Err W (fun b => ¬ b = g ∧ w.heap.size ≤ b) sent bad e) (hn : rows.length = n) (hx : ∀ x ∈ rows, x.length ≤ bs.length) (hs : (bad = false ∧ splitB bs = some rows) ∨ (bad = true ∧ ∀ l, splitB bs = some l → l.length ≠ n)) :
    Start w sent bs n (.returned (.pointer (some ⟨g, 0, none⟩))) W :=
  ⟨g, rows, bad, rfl, hgw, hb, ⟨hgl.below hb, fun h => by have := hgl.lt; omega, rfl, fun b h => by rw [h]; exact hblk.lt, hb.size, v, e, hblk, hr, he⟩, hn, hx, hs⟩
theorem Bsr.empties' (w : World) (n : Nat) (hn : n ≤ 1000) (S : Nat → Prop) (hS : S w.heap.size) : Bsr (w.alloc (.cells (Array.replicate n (.slice none 0 0)) 77)) S (.slice (some ⟨w.heap.size, 0, none⟩) n n) (List.replicate n []) := by
  have := Bsr.empties w n hn S hS
  rwa [List.toArray_replicate] at this
theorem Start.bad1 {w w1 : World} {sent : Value} {bs : List UInt8} {n : Nat} (what : Value) (hb : Below w.heap.size w w1) (hg : Gl w sent) (hn : n ≤ 1000) (hs : ∀ l, splitB bs = some l → l.length ≠ n) :
    Start w sent bs n (.returned (.pointer (some ⟨w1.heap.size + 1 + 1, 0, none⟩))) (((w1.alloc (.cells (Array.replicate n (.slice none 0 0)) 77)).alloc (.cells #[what, sent] 133)).alloc (.cells #[.slice (some ⟨w1.heap.size, 0, none⟩) n n, .iface 129 (.pointer (some ⟨w1.heap.size + 1, 0, none⟩))] 144)) := by
  have h1 := Bsr.empties' w1 n hn (fun b => b = w1.heap.size) rfl
  obtain ⟨wa, hwa⟩ : ∃ wa, wa = w1.alloc (.cells (Array.replicate n (.slice none 0 0)) 77) := ⟨_, rfl⟩
  have hsa : wa.heap.size = w1.heap.size + 1 := by rw [hwa]; simp
  have hba : Below w.heap.size w wa := hwa ▸ hb.alloc hb.size _
  have h2 := Chain.fresh (w := wa) (sent := sent) (S := fun b => b = wa.heap.size) what rfl
  rw [← hwa] at h1 ⊢
  obtain ⟨wb, hwb⟩ : ∃ wb, wb = wa.alloc (.cells #[what, sent] 133) := ⟨_, rfl⟩
  have hsb : wb.heap.size = wa.heap.size + 1 := by rw [hwb]; simp
  have hbb : Below wa.heap.size wa wb := hwb ▸ (Below.refl _ wa).alloc (Nat.le_refl _) _
  rw [← hwb] at h2 ⊢
  have hbc : ∀ o, Below wb.heap.size wb (wb.alloc o) := fun o => (Below.refl _ wb).alloc (Nat.le_refl _) o
  have hk := Blk.new wb 144 #[.slice (some ⟨w1.heap.size, 0, none⟩) n n, .iface 129 (.pointer (some ⟨w1.heap.size + 1, 0, none⟩))]
  have := hb.size
  rw [hsb, hsa] at hk
  rw [hsa] at h2
  exact Start.mk ((hba.trans (hbb.mono hba.size)).alloc (Nat.le_trans hba.size hbb.size) _) (by omega) hg hk (((h1.below hbb).below (hbc _)).subs fun b hb _ h => by omega)
    (.inr ⟨rfl, (h2.low (hbc _)).sub fun b hb _ => ⟨fun h => by omega, by omega⟩⟩) (by simp) (fun x hx => by rw [List.eq_of_mem_replicate hx]; simp) (.inr ⟨rfl, hs⟩)
theorem Start.bad2 {w w1 : World} {sent : Value} {bs : List UInt8} {n : Nat} (what : Value) (hb : Below w.heap.size w w1) (hg : Gl w sent) (hn : n ≤ 1000) (hs : ∀ l, splitB bs = some l → l.length ≠ n) :
    Start w sent bs n (.returned (.pointer (some ⟨w1.heap.size + 1 + 1, 0, none⟩))) (((w1.alloc (.cells #[what, sent] 133)).alloc (.cells (Array.replicate n (.slice none 0 0)) 77)).alloc (.cells #[.slice (some ⟨w1.heap.size + 1, 0, none⟩) n n, .iface 129 (.pointer (some ⟨w1.heap.size, 0, none⟩))] 144)) := by
  have h2 := Chain.fresh (w := w1) (sent := sent) (S := fun b => b = w1.heap.size) what rfl
  obtain ⟨wa, hwa⟩ : ∃ wa, wa = w1.alloc (.cells #[what, sent] 133) := ⟨_, rfl⟩
  have hsa : wa.heap.size = w1.heap.size + 1 := by rw [hwa]; simp
  have hba : Below w.heap.size w wa := hwa ▸ hb.alloc hb.size _
  have h1 := Bsr.empties' wa n hn (fun b => b = wa.heap.size) rfl
  rw [← hwa] at h2 ⊢
  obtain ⟨wb, hwb⟩ : ∃ wb, wb = wa.alloc (.cells (Array.replicate n (.slice none 0 0)) 77) := ⟨_, rfl⟩
  have hsb : wb.heap.size = wa.heap.size + 1 := by rw [hwb]; simp
  have hbb : Below wa.heap.size wa wb := hwb ▸ (Below.refl _ wa).alloc (Nat.le_refl _) _
  rw [← hwb] at h1 ⊢
  have hbc : ∀ o, Below wb.heap.size wb (wb.alloc o) := fun o => (Below.refl _ wb).alloc (Nat.le_refl _) o
  have hk := Blk.new wb 144 #[.slice (some ⟨w1.heap.size + 1, 0, none⟩) n n, .iface 129 (.pointer (some ⟨w1.heap.size, 0, none⟩))]
  have := hb.size
  rw [hsb, hsa] at hk
  rw [hsa] at h1
  exact Start.mk ((hba.trans (hbb.mono hba.size)).alloc (Nat.le_trans hba.size hbb.size) _) (by omega) hg hk ((h1.below (hbc _)).subs fun b hb _ h => by omega)
    (.inr ⟨rfl, ((h2.low hbb).low (hbc _)).sub fun b hb _ => ⟨fun h => by omega, by omega⟩⟩) (by simp) (fun x hx => by rw [List.eq_of_mem_replicate hx]; simp) (.inr ⟨rfl, hs⟩)
theorem Start.drew {w W : World} {sent : Value} {bs : List UInt8} {n : Nat} {e : Ending} (h : Start w sent bs n e W) : Start w sent bs n e W.drew := by
  obtain ⟨g, rows, bad, h1, h2, h3, h4, h5⟩ := h
  exact ⟨g, rows, bad, h1, h2, h3.drew, h4.below (Below.refl _ W).drew, h5⟩
set_option maxRecDepth 100000 in
theorem psplit_any (w : World) {S : Nat → Prop} {v sent : Value} {bs : List UInt8} (h : Bs w S v bs) (hlen : bs.length ≤ 1099511627776) (hg : Gl w sent) (n : Nat) (hn : n ≤ 1000) (what : ByteArray) :
    Calls Tryz.prog 76 #[v, .int .i64 n, .string what] w (Start w sent bs n) := by
  have H := Lib.hid (split_any w h hlen)
  obtain ⟨A, cap, rfl⟩ := h.form
  have HG := Lib.hid hg
  clear h hg
  go_enter Tryz.func76, Tryz.ntmps76
  go_wp2_with fail
  refine H.out.mono ?_
  rintro e w1 ⟨hb1, ⟨hno, rfl⟩ | ⟨v1, rows, hsp, rfl, hbss⟩⟩
  · have HNO := Lib.hid hno; clear hno
    obtain ⟨⟨sa, rfl⟩, hgl⟩ := HG.out.below hb1
    have hgl : w1.cell? ⟨gF, 0, none⟩ = some _ := hgl
    unfold gF at hgl
    have hmk := run_make_rows n (by omega)
    have hg1 : 1 < w1.heap.size := (HG.out.below hb1).lt
    go_wp2_with fail
    go_region
    · go_wp2
      go_ret
      exact Start.drew <| Start.bad1 _ hb1 HG.out hn fun l hl => by rw [HNO.out] at hl; cases hl
    · go_wp2
      go_ret
      exact Start.drew <| Start.bad2 _ hb1 HG.out hn fun l hl => by rw [HNO.out] at hl; cases hl
  · have hlr : ∀ x ∈ rows, x.length ≤ 140737488355328 := fun x hx => by have := joinP_mem_le hsp x hx; omega
    have HSP := Lib.hid hsp; clear hsp
    obtain ⟨A1, c1, rfl⟩ := hbss.form
    have HB := Lib.hid (hbss.read hlr)
    clear hbss hlr
    by_cases hl : rows.length = n
    · have HL := Lib.hid hl
      have hd : (((rows.length : Nat) : Int) != (n : Int)) = false := by simp [hl]
      clear hl
      go_wp2_with fail
      go_ret
      have hal := (Below.refl w1.heap.size w1).alloc (Nat.le_refl _) (.cells #[.slice A1 rows.length c1, .nilIface] 144)
      have := hb1.size
      exact Start.mk (hb1.trans (hal.mono this)) this HG.out (Blk.new w1 _ _) ((HB.out.lt_ (T := fun _ => True) fun _ _ => trivial).below hal |>.subs fun b hb _ h => by omega) (.inl ⟨rfl, rfl⟩) HL.out (joinP_mem_le HSP.out) (.inl ⟨rfl, HSP.out⟩)
    · have HL := Lib.hid hl
      have hd : (((rows.length : Nat) : Int) != (n : Int)) = true := by simp; omega
      clear hl
      obtain ⟨⟨sa, rfl⟩, hgl⟩ := HG.out.below hb1
      have hgl : w1.cell? ⟨gF, 0, none⟩ = some _ := hgl
      unfold gF at hgl
      have hmk := run_make_rows n (by omega)
      have hg1 : 1 < w1.heap.size := (HG.out.below hb1).lt
      go_wp2_with fail
      go_region
      · go_wp2
        go_ret
        exact Start.drew <| Start.bad1 _ hb1 HG.out hn fun l hl => by rw [HSP.out] at hl; injection hl with hl; rw [← hl]; exact HL.out
      · go_wp2
        go_ret
        exact Start.drew <| Start.bad2 _ hb1 HG.out hn fun l hl => by rw [HSP.out] at hl; injection hl with hl; rw [← hl]; exact HL.out
end
section
open Go.RowKit Go.Maps
theorem Took.one {s : Sh} {w : World} {X : Nat → Prop} {E g : Nat} {sent : Value} {b : List UInt8} {rest : List (List UInt8)} {bad : Bool} {e : Ending} {w' : World} (hs : ∀ y, s.val [y] = y) (h1 : s.cells = 1) (h : Took s w X E g sent b rest bad e w') :
    ∃ y bad', e = .returned y ∧ y.oneCell' = true ∧ Chg (fun k => k = g) w w' ∧ Pt w' X E g sent rest bad' ∧ SOut s w' (Nw w.heap.size w') b [y] bad bad' := by
  obtain ⟨cs, bad', rfl, hc, hp, ho⟩ := h
  obtain ⟨y, rfl⟩ : ∃ y, cs = [y] := by
    have := ho.1
    rw [h1] at this
    exact List.length_eq_one_iff.1 this
  exact ⟨y, bad', by rw [hs], ho.2.1 y (by simp), hc, hp, ho⟩
theorem Took.agg {s : Sh} {w : World} {X : Nat → Prop} {E g : Nat} {sent : Value} {b : List UInt8} {rest : List (List UInt8)} {bad : Bool} {e : Ending} {w' : World} (hs : ∀ c, s.val c = .agg c.toArray) (h : Took s w X E g sent b rest bad e w') :
    ∃ c bad', e = .returned (.agg c.toArray) ∧ (∀ v ∈ c, v.oneCell' = true) ∧ c.length = s.cells ∧ Chg (fun k => k = g) w w' ∧ Pt w' X E g sent rest bad' ∧ SOut s w' (Nw w.heap.size w') b c bad bad' := by
  obtain ⟨cs, bad', rfl, hc, hp, ho⟩ := h
  exact ⟨cs, bad', by rw [hs], ho.2.1, ho.1, hc, hp, ho⟩
theorem Pt.parts {w : World} {X : Nat → Prop} {E g : Nat} {sent : Value} {rows : List (List UInt8)} {bad : Bool} (h : Pt w X E g sent rows bad) : ∃ v e, Blk w g 144 #[v, e] ∧ Err w (fun b => E ≤ b) sent bad e := by
  obtain ⟨_, _, _, _, _, v, e, h1, _, h3⟩ := h
  exact ⟨v, e, h1, h3.to (fun b _ hlt => ⟨hlt, rfl⟩) fun b hb _ => hb.2⟩
theorem ReadOut.mk {fs : Fs} {w wN w' : World} {sent e : Value} {bs : List UInt8} {rows : List (List UInt8)} {C : List Value} {bad badN : Bool} {n : Nat} (hout : fs.Out wN (Nw (w.heap.size + 1) wN) rows C bad badN)
    (hs : (bad = false ∧ splitB bs = some rows) ∨ (bad = true ∧ ∀ l, splitB bs = some l → l.length ≠ n)) (hn : fs.len = n) (he : Err wN (fun b => w.heap.size + 1 ≤ b) sent badN e) (hb : Below w.heap.size w wN) (hc : Chg (fun b => b = w.heap.size) wN w') :
    ReadOut (.tup fs) w sent bs (.returned (.tuple #[.agg C.toArray, e])) w' := by
  have hk : ∀ b, w.heap.size + 1 ≤ b → b < wN.heap.size → b < w'.heap.size ∧ w'.heap[b]? = wN.heap[b]? := fun b hb hlt => ⟨ltle hlt hc.size, hc.block b hlt fun e => by omega⟩
  exact ⟨C, e, badN, rfl, hb.trans (hc.below hb.size fun b h => Nat.le_of_eq h.symm), he.to hk fun b hb _ => by omega, Fs.Out.tup (n := n) (hout.to (fun b hb hlt => hk b hb.1 hlt) fun b hb hlt => hb.to (by omega) (hk b hb.1 hlt).2) hs fun l x h => hn ▸ Fs.decs_len fs l x h⟩
end
section
open Go.RowKit Go.Maps
theorem ReadOut.one {s : Sh} {w : World} {sent : Value} {b : List UInt8} {e : Ending} {w' : World} (hs : ∀ y, s.val [y] = y) (h1 : s.cells = 1) (h : ReadOut s w sent b e w') :
    ∃ y err bad, e = .returned (.tuple #[y, err]) ∧ y.oneCell' = true ∧ Below w.heap.size w w' ∧ Err w' (fun b => w.heap.size ≤ b) sent bad err ∧ SOut s w' (Nw w.heap.size w') b [y] false bad := by
  obtain ⟨cs, err, bad, rfl, hb, he, ho⟩ := h
  obtain ⟨y, rfl⟩ : ∃ y, cs = [y] := by
    have := ho.1
    rw [h1] at this
    exact List.length_eq_one_iff.1 this
  exact ⟨y, err, bad, by rw [hs], ho.2.1 y (by simp), hb, he, ho⟩
theorem ReadOut.agg {s : Sh} {w : World} {sent : Value} {b : List UInt8} {e : Ending} {w' : World} (hs : ∀ c, s.val c = .agg c.toArray) (h : ReadOut s w sent b e w') :
    ∃ c err bad, e = .returned (.tuple #[.agg c.toArray, err]) ∧ (∀ v ∈ c, v.oneCell' = true) ∧ c.length = s.cells ∧ Below w.heap.size w w' ∧ Err w' (fun b => w.heap.size ≤ b) sent bad err ∧ SOut s w' (Nw w.heap.size w') b c false bad := by
  obtain ⟨cs, err, bad, rfl, hb, he, ho⟩ := h
  exact ⟨cs, err, bad, by rw [hs], ho.2.1, ho.1, hb, he, ho⟩
theorem SOut.or_ {s : Sh} {w : World} {S : Nat → Prop} {b : List UInt8} {cs : List Value} {bd : Bool} (h : SOut s w S b cs false bd) (bad : Bool) : SOut s w S b cs bad (bad || bd) := by
  obtain ⟨h1, h2, h3⟩ := h
  refine ⟨h1, h2, h3.imp (fun ⟨x, e1, e2, e3⟩ => ⟨x, e1, by rw [e2, Bool.or_false], e3⟩) fun ⟨e1, e2⟩ => ⟨e1, by rw [e2, Bool.or_true]⟩⟩
theorem Pt.single {w : World} {S : Nat → Prop} {sent : Value} {A : Option Addr} {cap : Nat} {bs : List UInt8} (h : Bs w S (.slice A bs.length cap) bs) (hg : Gl w sent) :
    Pt ((w.alloc (.cells #[.slice A bs.length cap] 77)).alloc (.cells #[.slice (some ⟨w.heap.size, 0, none⟩) 1 1, .nilIface] 144)) (fun b => b = w.heap.size + 1) w.heap.size (w.heap.size + 1) sent [bs] false := by
  have hb := (Below.refl w.heap.size w).alloc (Nat.le_refl _) (.cells #[.slice A bs.length cap] 77)
  have hb2 := hb.alloc (by simp) (.cells #[.slice (some ⟨w.heap.size, 0, none⟩) 1 1, .nilIface] 144)
  have hk := Blk.new (w.alloc (.cells #[.slice A bs.length cap] 77)) 144 #[.slice (some ⟨w.heap.size, 0, none⟩) 1 1, .nilIface]
  rw [show (w.alloc (.cells #[.slice A bs.length cap] 77)).heap.size = w.heap.size + 1 by simp] at hk
  have hlt := hg.lt
  have hr := Cs.of_new w 77 (size := 1) 1 (cs := [.slice A bs.length cap]) rfl (by simp only [maxLen]; decide)
  refine ⟨hg.below hb2, fun h => by omega, rfl, fun b h => by rw [h]; simp, by simp; omega, _, _, hk, ?_, .inl ⟨rfl, rfl⟩⟩
  refine ⟨[.slice A bs.length cap], (hr.sub (T := fun b => ¬ b = w.heap.size + 1) fun b hb _ => by omega).below ((Below.refl _ _).alloc (Nat.le_refl _) _), fun i x u h1 h2 => ?_⟩
  cases i with
  | zero =>
    simp only [getElem?_cons_zero, Option.some.injEq] at h1 h2
    subst h1 h2
    exact ⟨(h.below hb2).1.sub' h.1 fun b _ hlt => by omega, h.2⟩
  | succ i => simp at h1
theorem ReadOut.single {s : Sh} {w w1 : World} {sent y e9 : Value} {bs : List UInt8} {o1 o2 : Obj} {bad : Bool} {k : Nat} (hs : ∀ y, s.val [y] = y) (hc : Chg (fun k => k = w.heap.size + 1) ((w.alloc o1).alloc o2) w1)
    (he : Err w1 (fun b => w.heap.size ≤ b) sent bad e9) (ho : SOut s w1 (Nw ((w.alloc o1).alloc o2).heap.size w1) bs [y] false bad) : ReadOut s w sent bs (.returned (.tuple #[y, e9])) (w1.drewN k) := by
  have hb := ((Below.refl w.heap.size w).alloc (Nat.le_refl _) o1).alloc (by simp) o2
  refine ⟨[y], e9, bad, by rw [hs], below_drewN (hb.trans (hc.below hb.size fun b h => by omega)) k, he.to (fun b _ hlt => ⟨hlt, rfl⟩) fun b hb _ => hb, ho.nw (fun b _ hlt => ⟨hlt, rfl⟩) hb.size⟩
set_option maxRecDepth 100000 in
theorem readNum_any (w : World) {S : Nat → Prop} {v sent : Value} {bs : List UInt8} (h : Bs w S v bs) (_hlen : bs.length ≤ 262144) (hg : Gl w sent) :
    Calls Tryz.prog 113 #[v] w (ReadOut i64 w sent bs) := by
  obtain ⟨A, cap, rfl⟩ := h.form
  have H := Lib.hid (int_any _ (Pt.single h hg)); clear h hg
  go_enter Tryz.func113, Tryz.ntmps113
  go_wp2_with fail
  refine H.out.mono ?_
  rintro e w1 ht
  obtain ⟨y, bad, rfl, h1, hc, hp, ho⟩ := ht.one (fun _ => rfl) rfl
  obtain ⟨v9, e9, hblk, herr⟩ := hp.parts
  have hcc := hblk.cell
  have HO := Lib.hid ho
  have HE := Lib.hid herr
  clear ho herr hp H ht hblk
  go_wp2_with fail
  go_quiet (fail)
  go_wp2_with fail
  go_ret2
  exact ReadOut.single (fun _ => rfl) hc HE.out HO.out
end
section
open Go.RowKit
def Pk (w : World) (sent : Value) : Prop := Gl w sent ∧ ∃ (a b : Addr) (ca cb : Array Value) (ta tb : TypeId), sent = .iface 205 (.pointer (some a)) ∧ a ≠ b ∧ w.heap[a.block]? = some (.cells ca ta (0, 0)) ∧ w.heap[b.block]? = some (.cells cb tb (0, 0)) ∧
  w.cell? ⟨0, 0, none⟩ = some (.iface 205 (.pointer (some b))) ∧ w.cell? ⟨2, 0, none⟩ = some (.iface 182 (.agg #[.pointer (some ⟨nG, 131, none⟩)]))
theorem cell_low {w w' : World} {k : Nat} {v : Value} (h : w.cell? ⟨k, 0, none⟩ = some v) (hb : Below w.heap.size w w') : w'.cell? ⟨k, 0, none⟩ = some v := by
  have hlt : k < w.heap.size := by
    rcases Nat.lt_or_ge k w.heap.size with h1 | h1
    · exact h1
    · simp only [World.cell?] at h; rw [Array.getElem?_eq_none h1] at h; cases h
  exact (World.cell?_of_block (a := ⟨k, 0, none⟩) (hb.block k hlt)).trans h
theorem heap_low {w w' : World} {k : Nat} {o : Obj} (h : w.heap[k]? = some o) (hb : Below w.heap.size w w') : w'.heap[k]? = some o := by
  have hlt : k < w.heap.size := by
    rcases Nat.lt_or_ge k w.heap.size with h1 | h1
    · exact h1
    · rw [Array.getElem?_eq_none h1] at h; cases h
  exact (hb.block k hlt).trans h
theorem Pk.below {w w' : World} {sent : Value} (h : Pk w sent) (hb : Below w.heap.size w w') : Pk w' sent := by
  obtain ⟨h1, a, b, ca, cb, ta, tb, h2, h3, h4, h5, h6, h7⟩ := h
  exact ⟨h1.below hb, a, b, ca, cb, ta, tb, h2, h3, heap_low h4 hb, heap_low h5 hb, cell_low h6 hb, cell_low h7 hb⟩
def Wr (w : World) (sent : Value) (e : Value) (r : Bool) : Prop := ∃ (g n : Nat) (s : Value), e = .iface 129 (.pointer (some ⟨g, 0, none⟩)) ∧ Links w s e n ∧ (if r then w.cell? ⟨0, 0, none⟩ = some s else s = sent)
theorem Links.low {w w' : World} {s e : Value} {n : Nat} (h : Links w s e n) (hb : Below w.heap.size w w') : Links w' s e n := by
  induction h with
  | last => exact .last
  | more h1 _ ih => exact .more (h1.below hb h1.lt) ih
theorem Wr.low {w w' : World} {sent e : Value} {r : Bool} (h : Wr w sent e r) (hb : Below w.heap.size w w') : Wr w' sent e r := by
  obtain ⟨g, n, s, h1, h2, h3⟩ := h
  refine ⟨g, n, s, h1, h2.low hb, ?_⟩
  cases r
  · exact h3
  · exact cell_low h3 hb
theorem Wr.of_chain {w : World} {S : Nat → Prop} {sent e : Value} (h : Chain w S sent e) : Wr w sent e false := by
  obtain ⟨g, rfl⟩ := h.form
  obtain ⟨n, hl⟩ := Links.of_chain h
  exact ⟨g, n + 1, sent, rfl, hl, rfl⟩
theorem Wr.fresh {w : World} {sent v : Value} (h : w.cell? ⟨0, 0, none⟩ = some v) (what : Value) : Wr (w.alloc (.cells #[what, v] 133)) sent (.iface 129 (.pointer (some ⟨w.heap.size, 0, none⟩))) true :=
  ⟨w.heap.size, 1, v, rfl, .more (Blk.new w _ _) .last, cell_low h ((Below.refl _ w).alloc (Nat.le_refl _) _)⟩
set_option maxRecDepth 1000000 in
theorem told_any (w : World) {sent e : Value} {r : Bool} (hp : Pk w sent) (he : Wr w sent e r) :
    Calls Tryz.prog 75 #[e] w fun en w' => en = .returned (.int .i64 (if r then 4 else 5)) ∧ Below w.heap.size w w' := by
  have hal := (Below.refl w.heap.size w).alloc (Nat.le_refl _) (.cells #[.pointer none] 129)
  have hp0 := hp.below hal
  have he0 := he.low hal
  obtain ⟨hgl, a, b, ca, cb, ta, tb, hse, hab, ha, hb, hcb, hty⟩ := hp0
  obtain ⟨g, n, s, rfl, hl, hs⟩ := he0
  have hcb0 : w.cell? ⟨0, 0, none⟩ = some (.iface 205 (.pointer (some b))) := by
    obtain ⟨_, a', b', ca', cb', ta', tb', _, _, _, _, h6, _⟩ := hp
    have := cell_low h6 hal
    rw [hcb] at this
    injection this with this
    injection this with _ h1
    injection h1 with h1
    injection h1 with h1
    rw [h1]; exact h6
  have hlt0 : 0 < w.heap.size := by
    rcases Nat.lt_or_ge 0 w.heap.size with h1 | h1
    · exact h1
    · simp only [World.cell?] at hcb0; rw [Array.getElem?_eq_none h1] at hcb0; cases hcb0
  have HAL := Lib.hid hal
  have HTY := Lib.hid hty
  cases r
  · simp only [Bool.false_eq_true, if_false] at hs
    subst hs
    subst hse
    have HI := Lib.hid (is_any a b ca cb ta tb ha hb hl false (decide_eq_false hab).symm)
    clear hp he hgl ha hb hl hal hcb hty
    go_enter Tryz.func75, Tryz.ntmps75
    go_wp2_with fail
    refine HI.out.mono ?_
    rintro e w1 ⟨rfl, hw1⟩
    obtain rfl := hw1
    go_wp2_with fail
    refine (as_hit ⟨g, 0, none⟩ ⟨w.heap.size, 0, none⟩ (.pointer none) _ HTY.out (by simp) (by simp)).mono ?_
    rintro e w2 ⟨rfl, hw2⟩
    have hb2 : Below w.heap.size w w2 := by
      subst hw2
      exact (((((HAL.out.alloc HAL.out.size _).alloc (by simp; omega) _).alloc (by simp; omega) _).alloc (by simp; omega) _)).setCell (by simp) _
    clear hw2
    go_wp2_with fail
    go_ret
    exact ⟨rfl, hb2⟩
  · simp only [if_true] at hs
    rw [hcb] at hs
    injection hs with hs
    subst hs
    have HI := Lib.hid (is_any b b cb cb tb tb hb hb hl true (decide_eq_true rfl).symm)
    clear hp he hgl ha hb hl hal hcb hty
    go_enter Tryz.func75, Tryz.ntmps75
    go_wp2_with fail
    refine HI.out.mono ?_
    rintro e w1 ⟨rfl, hw1⟩
    obtain rfl := hw1
    go_wp2_with fail
    go_ret
    exact ⟨rfl, HAL.out⟩
theorem Effects.world {P : Program} {ops : Array Oper} {Q : Exit → Act → World → Prop} {S : World → Prop} {E T : List Oper} {a : Act} {F : World → Prop} (h : ∀ W, F W → Effects P ops Q S E T a W) {w : World} (hF : F w) : Effects P ops Q S E T a w := h w hF
def FaceOutN (s : Sh) (z : List Value) (w : World) (bs : List UInt8) (e : Ending) (w' : World) : Prop :=
  Below w.heap.size w w' ∧ ∃ (cs : List Value) (n : Int), e = .returned (.tuple #[.agg cs.toArray, .int .i64 n]) ∧ cs.length = s.cells ∧ (∀ v ∈ cs, v.oneCell' = true) ∧
    ((262144 < bs.length ∧ n = 4 ∧ cs = z) ∨ (bs.length ≤ 262144 ∧ ((∃ x, s.dec bs = some x ∧ n = 0 ∧ s.rep w' (Nw w.heap.size w') x cs) ∨ (s.dec bs = none ∧ n = 5 ∧ cs = z))))
def FaceOut (s : Sh) (w : World) (bs : List UInt8) (e : Ending) (w' : World) : Prop :=
  Below w.heap.size w w' ∧ ∃ (cs : List Value) (n : Int), e = .returned (.tuple #[.agg cs.toArray, .int .i64 n]) ∧ cs.length = s.cells ∧ (∀ v ∈ cs, v.oneCell' = true) ∧
    ((262144 < bs.length ∧ n = 4) ∨ (bs.length ≤ 262144 ∧ ((∃ x, s.dec bs = some x ∧ n = 0 ∧ s.rep w' (fun b => w.heap.size ≤ b) x cs) ∨ (s.dec bs = none ∧ n = 5))))
theorem FaceOutN.weak {s : Sh} {z : List Value} {w w' : World} {bs : List UInt8} {e : Ending} (h : FaceOutN s z w bs e w') : FaceOut s w bs e w' := by
  obtain ⟨h0, cs, n, h1, h2, h3, h4⟩ := h
  exact ⟨h0, cs, n, h1, h2, h3, h4.imp (fun ⟨q1, q2, _⟩ => ⟨q1, q2⟩) fun ⟨q1, q2⟩ => ⟨q1, q2.imp (fun ⟨x, e1, e2, e3⟩ => ⟨x, e1, e2, Sh.rep_to (fun _ _ hlt => ⟨hlt, rfl⟩) (fun _ hb _ => hb.1) _ _ _ e3⟩) fun ⟨q1, q2, _⟩ => ⟨q1, q2⟩⟩⟩
end
section
open Go.RowKit Go.Maps
attribute [-simp] Tryz.isAgg37 Tryz.typeInfo37 Tryz.isAgg125 Tryz.typeInfo125
theorem info_readHeader : (Tryz.prog.info? 125).map (fun i => (i.zero.map (fun z => z.cells.size))) = some (some 101) := by kernel_rfl
theorem size_readHeader : (Tryz.prog.info? 125).map (·.size) = some 101 := by kernel_rfl
theorem places_readHeader : ((match Tryz.prog.underlying 125 with | some (.struct fields) => fields.toList.mapM (fun f => (Tryz.prog.info? f.type).map fun i => (f.offset, i.size)) | _ => none)) = some [(0, 1), (1, 1), (2, 1), (3, 1), (4, 32), (36, 32), (68, 32), (100, 1)] := by kernel_rfl
set_option maxHeartbeats 4000000 in
set_option maxRecDepth 100000 in
theorem readHeader_any (w : World) {S : Nat → Prop} {v sent : Value} {bs : List UInt8} (h : Bs w S v bs) (hlen : bs.length ≤ 262144) (hg : Gl w sent) :
    Calls Tryz.prog 107 #[v] w (ReadOut (.tup (.cons i64 (.cons i64 (.cons i64 (.cons i64 (.cons .dig (.cons .dig (.cons .dig (.cons i64 .nil))))))))) w sent bs) := by
  have hal := (Below.refl w.heap.size w).alloc (Nat.le_refl _) (.cells (([.int .i64 0, .int .i64 0, .int .i64 0, .int .i64 0] ++ List.replicate 96 (.int .u8 0) ++ [.int .i64 0] : List Value)).toArray 125)
  have HS := Lib.hid (psplit_any _ (h.below hal) (by omega) (hg.below hal) 8 (by omega) ⟨#[97, 32, 104, 101, 97, 100, 101, 114]⟩)
  have HN := Lib.hid (Blk.new w 125 (([.int .i64 0, .int .i64 0, .int .i64 0, .int .i64 0] ++ List.replicate 96 (.int .u8 0) ++ [.int .i64 0] : List Value)).toArray)
  have HAL := Lib.hid hal
  obtain ⟨A, cap, rfl⟩ := h.form
  clear h hg hal
  go_enter Tryz.func107, Tryz.ntmps107
  go_wp2_with fail
  refine HS.out.mono ?_
  rintro e w1 ⟨g, rows, bad, rfl, hgw, hb1, hp, hn, hrl, hs⟩
  obtain ⟨r0, r1, r2, r3, r4, r5, r6, r7, rfl⟩ : ∃ r0 r1 r2 r3 r4 r5 r6 r7, rows = [r0, r1, r2, r3, r4, r5, r6, r7] := by
    match rows, hn with
    | [r0, r1, r2, r3, r4, r5, r6, r7], _ => exact ⟨r0, r1, r2, r3, r4, r5, r6, r7, rfl⟩
  have HK := Lib.hid (HN.out.below hb1 (by simp))
  have hgw' : w.heap.size + 1 ≤ g := by simpa using hgw
  have hz1 : w.heap.size + 1 ≤ w1.heap.size := by simpa using hb1.size
  have HB1 := Lib.hid (HAL.out.trans (hb1.mono (by simp)))
  have HSS := Lib.hid hs
  have HRL := Lib.hid (show ∀ x ∈ [r0, r1, r2, r3, r4, r5, r6, r7], x.length ≤ 262144 from fun x hx => Nat.le_trans (hrl x hx) hlen)
  have hE : Pt w1 (fun b => b = g) (w.heap.size + 1) g sent [r0, r1, r2, r3, r4, r5, r6, r7] bad := by simpa using hp
  clear HS HN HAL hgw hb1 hs hn hp hrl hlen
  have hp0 := hE
  clear hE
  go_wp2_with fail
  refine (int_any _ hp0).mono ?_
  rintro e w2 ht
  obtain ⟨y0, b0, rfl, h10, hc0, hp1, ho0⟩ := ht.one (fun _ => rfl) rfl
  have hgl0 := hp0.lt
  have hz2 := Nat.le_trans hz1 hc0.size
  have HO0 := Lib.hid ho0
  have HC0 := Lib.hid hc0
  have H10 := Lib.hid h10
  clear ht ho0 hc0 h10 hp0
  go_wp2_with fail
  refine (int_any _ hp1).mono ?_
  rintro e w3 ht
  obtain ⟨y1, b1, rfl, h11, hc1, hp2, ho1⟩ := ht.one (fun _ => rfl) rfl
  have hgl1 := hp1.lt
  have hz3 := Nat.le_trans hz2 hc1.size
  have HO1 := Lib.hid ho1
  have HC1 := Lib.hid hc1
  have H11 := Lib.hid h11
  clear ht ho1 hc1 h11 hp1
  go_wp2_with fail
  refine (n_any _ hp2).mono ?_
  rintro e w4 ht
  obtain ⟨y2, b2, rfl, h12, hc2, hp3, ho2⟩ := ht.one (fun _ => rfl) rfl
  have hgl2 := hp2.lt
  have hz4 := Nat.le_trans hz3 hc2.size
  have HO2 := Lib.hid ho2
  have HC2 := Lib.hid hc2
  have H12 := Lib.hid h12
  clear ht ho2 hc2 h12 hp2
  go_wp2_with fail
  refine (n_any _ hp3).mono ?_
  rintro e w5 ht
  obtain ⟨y3, b3, rfl, h13, hc3, hp4, ho3⟩ := ht.one (fun _ => rfl) rfl
  have hgl3 := hp3.lt
  have hz5 := Nat.le_trans hz4 hc3.size
  have HO3 := Lib.hid ho3
  have HC3 := Lib.hid hc3
  have H13 := Lib.hid h13
  clear ht ho3 hc3 h13 hp3
  go_wp2_with fail
  refine (pdigest_any _ hp4).mono ?_
  rintro e w6 ht
  obtain ⟨c4, b4, rfl, h14, hl4, hc4, hp5, ho4⟩ := ht.agg (fun _ => rfl)
  have hl4 : c4.length = 32 := hl4
  have hgl4 := hp4.lt
  have hz6 := Nat.le_trans hz5 hc4.size
  have HO4 := Lib.hid ho4
  have HC4 := Lib.hid hc4
  have H14 := Lib.hid h14
  have HL4 := Lib.hid hl4
  clear hl4
  clear ht ho4 hc4 h14 hp4
  go_wp2_with fail
  refine (pdigest_any _ hp5).mono ?_
  rintro e w7 ht
  obtain ⟨c5, b5, rfl, h15, hl5, hc5, hp6, ho5⟩ := ht.agg (fun _ => rfl)
  have hl5 : c5.length = 32 := hl5
  have hgl5 := hp5.lt
  have hz7 := Nat.le_trans hz6 hc5.size
  have HO5 := Lib.hid ho5
  have HC5 := Lib.hid hc5
  have H15 := Lib.hid h15
  have HL5 := Lib.hid hl5
  clear hl5
  clear ht ho5 hc5 h15 hp5
  go_wp2_with fail
  refine (pdigest_any _ hp6).mono ?_
  rintro e w8 ht
  obtain ⟨c6, b6, rfl, h16, hl6, hc6, hp7, ho6⟩ := ht.agg (fun _ => rfl)
  have hl6 : c6.length = 32 := hl6
  have hgl6 := hp6.lt
  have hz8 := Nat.le_trans hz7 hc6.size
  have HO6 := Lib.hid ho6
  have HC6 := Lib.hid hc6
  have H16 := Lib.hid h16
  have HL6 := Lib.hid hl6
  clear hl6
  clear ht ho6 hc6 h16 hp6
  go_wp2_with fail
  refine (int_any _ hp7).mono ?_
  rintro e w9 ht
  obtain ⟨y7, b7, rfl, h17, hc7, hp8, ho7⟩ := ht.one (fun _ => rfl) rfl
  have hgl7 := hp7.lt
  have hz9 := Nat.le_trans hz8 hc7.size
  have HO7 := Lib.hid ho7
  have HC7 := Lib.hid hc7
  have H17 := Lib.hid h17
  clear ht ho7 hc7 h17 hp7
  have hbu := run_struct (P := Tryz.prog) (vs := [y0, y1, y2, y3, .agg c4.toArray, .agg c5.toArray, .agg c6.toArray, y7]) (cs := [[y0], [y1], [y2], [y3], c4, c5, c6, [y7]]) info_readHeader places_readHeader ⟨cells_one H10.out, cells_one H11.out, cells_one H12.out, cells_one H13.out, rfl, rfl, rfl, cells_one H17.out, trivial⟩ (by simp [PlaceOk, HL4.out, HL5.out, HL6.out]) (by simp [HL4.out, HL5.out, HL6.out]) #[(0, y0), (1, y1), (2, y2), (3, y3), (4, .agg c4.toArray), (5, .agg c5.toArray), (6, .agg c6.toArray), (7, y7)] rfl
  have hone : ∀ v ∈ [[y0], [y1], [y2], [y3], c4, c5, c6, [y7]].flatten, v.oneCell' = true := by
    intro v hv
    simp only [List.flatten_cons, List.flatten_nil, List.mem_append, List.mem_singleton, List.not_mem_nil, or_false] at hv
    rcases hv with rfl | rfl | rfl | rfl | hv | hv | hv | rfl
    · exact H10.out
    · exact H11.out
    · exact H12.out
    · exact H13.out
    · exact H14.out v hv
    · exact H15.out v hv
    · exact H16.out v hv
    · exact H17.out
  have HOUT := Lib.hid (show Fs.Out (.cons i64 (.cons i64 (.cons i64 (.cons i64 (.cons .dig (.cons .dig (.cons .dig (.cons i64 .nil)))))))) w9 (Nw (w.heap.size + 1) w9) [r0, r1, r2, r3, r4, r5, r6, r7] [[y0], [y1], [y2], [y3], c4, c5, c6, [y7]].flatten bad b7 from by
    have := Fs.Out.step HO0.out (Fs.Out.step HO1.out (Fs.Out.step HO2.out (Fs.Out.step HO3.out (Fs.Out.step HO4.out (Fs.Out.step HO5.out (Fs.Out.step HO6.out (Fs.Out.step HO7.out (Fs.Out.nil_ w9 _ _) (Chg.refl _ _) hgl7 hz8) HC7.out hgl6 hz7) (HC6.out.trans HC7.out fun b h => .inl h) hgl5 hz6) ((HC5.out.trans HC6.out fun b h => .inl h).trans HC7.out fun b h => .inl h) hgl4 hz5) (((HC4.out.trans HC5.out fun b h => .inl h).trans HC6.out fun b h => .inl h).trans HC7.out fun b h => .inl h) hgl3 hz4) ((((HC3.out.trans HC4.out fun b h => .inl h).trans HC5.out fun b h => .inl h).trans HC6.out fun b h => .inl h).trans HC7.out fun b h => .inl h) hgl2 hz3) (((((HC2.out.trans HC3.out fun b h => .inl h).trans HC4.out fun b h => .inl h).trans HC5.out fun b h => .inl h).trans HC6.out fun b h => .inl h).trans HC7.out fun b h => .inl h) hgl1 hz2) ((((((HC1.out.trans HC2.out fun b h => .inl h).trans HC3.out fun b h => .inl h).trans HC4.out fun b h => .inl h).trans HC5.out fun b h => .inl h).trans HC6.out fun b h => .inl h).trans HC7.out fun b h => .inl h) hgl0 hz1
    simpa using this)
  have HCA := Lib.hid (show Chg (fun k => k = g) w1 w9 from (((((((HC0.out.trans HC1.out fun b h => .inl h).trans HC2.out fun b h => .inl h).trans HC3.out fun b h => .inl h).trans HC4.out fun b h => .inl h).trans HC5.out fun b h => .inl h).trans HC6.out fun b h => .inl h).trans HC7.out fun b h => .inl h))
  have hcl : [[y0], [y1], [y2], [y3], c4, c5, c6, [y7]].flatten.length = 101 := by simp [HL4.out, HL5.out, HL6.out]
  obtain ⟨C, hC⟩ : ∃ C, C = [[y0], [y1], [y2], [y3], c4, c5, c6, [y7]].flatten := ⟨_, rfl⟩
  rw [← hC] at hbu hone hcl HOUT
  have HBU := Lib.hid hbu
  have HONE := Lib.hid hone
  have HCL := Lib.hid hcl
  have HI := Lib.hid (show (Tryz.prog.info? 125).map (·.size) = some C.length from by rw [hcl]; exact size_readHeader)
  have HK2 := Lib.hid (HK.out.chg HCA.out (show ¬ w.heap.size = g from by omega))
  clear hbu hone hcl hC HK HO0 HC0 H10 HO1 HC1 H11 HO2 HC2 H12 HO3 HC3 H13 HO4 HC4 H14 HO5 HC5 H15 HO6 HC6 H16 HO7 HC7 H17 HL4 HL5 HL6
  have HP := Lib.hid hp8
  have hgX := hp8.lt
  clear hp8
  have hbu := HBU.out w9
  have HX := Lib.hid (HP.out.parts)
  go_wp2_with (first | (refine wpList_build_ rfl 125 _ rfl #[(0, y0), (1, y1), (2, y2), (3, y3), (4, .agg c4.toArray), (5, .agg c5.toArray), (6, .agg c6.toArray), (7, y7)] (by simp [Act.eval]) _ hbu ?_) | (refine wpList_store_blk (cs0 := ([.int .i64 0, .int .i64 0, .int .i64 0, .int .i64 0] ++ List.replicate 96 (.int .u8 0) ++ [.int .i64 0] : List Value)) (cs := C) rfl 125 _ _ rfl (Blk.new w9 _ _) rfl rfl (by rw [HCL.out]; rfl) HI.out HONE.out ?_; intro wx hbx hcx; have HBX := Lib.hid hbx; have HCX := Lib.hid hcx; clear hbx hcx))
  obtain ⟨vy, ey, hblk, herr⟩ := HX.out
  have HCX' := Lib.hid (show Chg (fun _ => False) w9 wx from ((Chg.refl _ w9).alloc _).trans HCX.out fun b h => .inr (Nat.le_of_eq h.symm))
  have HGX := Lib.hid (hblk.chg HCX'.out id)
  have HKX := Lib.hid (HK2.out.chg HCX'.out id)
  have HE := Lib.hid herr
  clear hbu hblk herr HX HBU
  refine wp_region_hoist [0, 1, 2, 3, 4] [5] [6] (fun w' => Blk w' w9.heap.size 125 C.toArray ∧ Blk w' g 144 #[vy, ey])
    (by kernel_rfl) (by kernel_rfl) (by kernel_rfl) (by kernel_rfl) (by kernel_rfl) (by kernel_rfl) ⟨HBX.out.drew, HGX.out.drew⟩ ?_
  (refine HoistK.load (by rfl) (by kernel_rfl) 125 _ rfl w9.heap.size 0 rfl C _ (fun w' hw => hw.1.range) Tryz.underlying125 rfl HI.out ?_; simp only [Act.put, setIfInBounds_toArray, getElem_toArray, getElem_cons_zero, set_cons_succ, set_cons_zero])
  iterate 3 (refine HoistK.yes (by rfl) (by kernel_rfl) ⟨?_, fun w' hSw => ?_, ?_⟩; rotate_left; (· go_simp; try with_reducible rfl); simp only [Act.put, setIfInBounds_toArray, getElem_toArray, getElem_cons_succ, getElem_cons_zero, set_cons_succ, set_cons_zero])
  (refine HoistK.yes (by rfl) (by kernel_rfl) ⟨?_, fun w' hSw => ?_, ?_⟩; rotate_left; (· have hcc := hSw.2.cell; go_simp; try with_reducible rfl); simp only [Act.put, setIfInBounds_toArray, getElem_toArray, getElem_cons_succ, getElem_cons_zero, set_cons_succ, set_cons_zero])
  refine HoistK.nil_ ?_
  simp only [opsAt, filterMap_cons, filterMap_nil, getElem?_toArray, getElem?_cons_succ, getElem?_cons_zero]
  refine Effects.cons_ fun _ hQ1 => ?_
  go_wp2_with (refine wpList_store_blk (cs0 := ([.int .i64 0, .int .i64 0, .int .i64 0, .int .i64 0] ++ List.replicate 96 (.int .u8 0) ++ [.int .i64 0] : List Value)) (cs := C) rfl 125 _ _ rfl HKX.out.drew rfl rfl (by rw [HCL.out]; rfl) HI.out HONE.out ?_; intro wy hby hcy; have HBY := Lib.hid hby; have HCY := Lib.hid hcy; clear hby hcy)
  refine hQ1 _ _ ⟨HBX.out.drew.chg HCY.out (fun h => by omega), HGX.out.drew.chg HCY.out (fun h => by omega)⟩ (Effects.nil_ fun _ hQ2 => ?_)
  go_wp2
  have hld := run_loadVar_mid (P := Tryz.prog) wy w.heap.size 0 125 C _ HBY.out.range Tryz.underlying125 rfl HI.out
  refine bodyPost_ret (v := .tuple #[.agg C.toArray, ey]) (by simp [results, Tryz.results107, asAddr, hld]) rfl ?_
  have hcf : Chg (fun b => b = w.heap.size) w9 wy := ((HCX'.out.mono fun _ h => h.elim).drew).trans HCY.out fun b h => .inl h
  exact ReadOut.mk (n := 8) HOUT.out HSS.out rfl HE.out (HB1.out.trans (HCA.out.below HB1.out.size fun b h => by omega)) hcf
end
section
open Go.RowKit Go.Maps
theorem Pt.grow {w w' : World} {X M Y : Nat → Prop} {E g : Nat} {sent : Value} {rows : List (List UInt8)} {bad : Bool} (h : Pt w X E g sent rows bad) (hc : Chg M w w') (hM : ∀ b, M b → X b ∧ b ≠ g)
    (hY : ∀ b, Y b → X b ∨ (w.heap.size ≤ b ∧ b < w'.heap.size)) (hg : Y g) : Pt w' Y E g sent rows bad := by
  obtain ⟨hg', hn, hx, hl, hE, v, e, h1, h2, h3⟩ := h
  have hs : ∀ b, ¬ X b → b < w.heap.size → ¬ Y b := fun b hb hlt hy => (hY b hy).elim hb fun h => by omega
  exact ⟨hg'.chg hc fun h => hn (hM _ h).1, hs _ hn hg'.lt, hg, fun b h => (hY b h).elim (fun h => ltle (hl b h) hc.size) fun h => h.2, Nat.le_trans hE hc.size, v, e, h1.chg hc fun h => (hM _ h).2 rfl,
    (h2.subs (T := fun b => ¬ Y b ∧ ¬ M b) fun b hb hlt => ⟨hs b hb hlt, fun h => hb (hM b h).1⟩).chg hc (fun b hb => hb.2) |>.subs fun b hb _ => hb.1,
    h3.to (fun b hb hlt => ⟨ltle hlt hc.size, hc.block b hlt fun h => hb.1 (hM _ h).1⟩) fun b hb hlt => ⟨hs b hb.1 hlt, hb.2⟩⟩
def LOut (s : Sh) (w : World) (S : Nat → Prop) (l : List (List UInt8)) (css : List (List Value)) (bad bad' : Bool) : Prop :=
  css.length = l.length ∧ (∀ c ∈ css, c.length = s.cells) ∧ ((∃ xs, allO (l.map s.dec) = some xs ∧ bad' = bad ∧ Two (s.rep w S) xs css) ∨ (allO (l.map s.dec) = none ∧ bad' = true))
theorem LOut.nil_ (s : Sh) (w : World) (S : Nat → Prop) (bad : Bool) : LOut s w S [] [] bad bad := ⟨rfl, fun c h => (by cases h), .inl ⟨[], rfl, rfl, .nil⟩⟩
theorem allO_snoc {α : Type} (l : List (Option α)) (o : Option α) : allO (l ++ [o]) = match allO l, o with | some r, some a => some (r ++ [a]) | _, _ => none := by
  induction l with
  | nil => cases o <;> rfl
  | cons p l ih =>
    simp only [List.cons_append, allO, ih]
    cases p with
    | none => cases allO l <;> cases o <;> rfl
    | some b => cases allO l <;> cases o <;> rfl
theorem LOut.snoc {s : Sh} {w w' : World} {S S' : Nat → Prop} {l : List (List UInt8)} {css : List (List Value)} {x : List UInt8} {c : List Value} {bad b1 b2 : Bool} (h : LOut s w S l css bad b1) (k : SOut s w' S' x c b1 b2)
    (hk : ∀ b, S b → b < w.heap.size → b < w'.heap.size ∧ w'.heap[b]? = w.heap[b]?) (hs : ∀ b, S b → b < w.heap.size → S' b) : LOut s w' S' (l ++ [x]) (css ++ [c]) bad b2 := by
  obtain ⟨h1, h2, h3⟩ := h
  obtain ⟨k1, k2, k3⟩ := k
  refine ⟨by simp [h1], fun d hd => (List.mem_append.1 hd).elim (h2 d) fun hd => by obtain rfl := List.mem_singleton.1 hd; exact k1, ?_⟩
  rw [List.map_append, List.map_cons, List.map_nil, allO_snoc]
  rcases h3 with ⟨xs, e1, e2, e3⟩ | ⟨e1, e2⟩ <;> rcases k3 with ⟨y, f1, f2, f3⟩ | ⟨f1, f2⟩ <;> rw [e1, f1]
  · exact .inl ⟨xs ++ [y], rfl, by rw [f2, e2], (e3.map fun a b h => Sh.rep_to hk hs s a b h).append (.cons f3 .nil)⟩
  · exact .inr ⟨rfl, f2⟩
  · exact .inr ⟨rfl, by rw [f2, e2]⟩
  · exact .inr ⟨rfl, f2⟩
theorem LOut.to {s : Sh} {w w' : World} {S S' : Nat → Prop} {l : List (List UInt8)} {css : List (List Value)} {bad b1 : Bool} (h : LOut s w S l css bad b1)
    (hk : ∀ b, S b → b < w.heap.size → b < w'.heap.size ∧ w'.heap[b]? = w.heap[b]?) (hs : ∀ b, S b → b < w.heap.size → S' b) : LOut s w' S' l css bad b1 :=
  ⟨h.1, h.2.1, h.2.2.imp (fun ⟨xs, e1, e2, e3⟩ => ⟨xs, e1, e2, e3.map fun a b h => Sh.rep_to hk hs s a b h⟩) id⟩
theorem LOut.list {s : Sh} {w : World} {S : Nat → Prop} {x : List UInt8} {l : List (List UInt8)} {css : List (List Value)} {bad b1 : Bool} {v : Value} (h : LOut s w S l css bad b1) (hsp : splitB x = some l) (hv : Cs w S s.cells v l.length css.flatten) : SOut (.list s) w S x [v] bad b1 := by
  obtain ⟨h1, _, h3⟩ := h
  obtain ⟨A, c, rfl⟩ := hv.form
  have hd : (Sh.list s).dec x = (match splitB x with | none => none | some l => allO (l.map s.dec)) := rfl
  refine ⟨rfl, fun u hu => by obtain rfl := List.mem_singleton.1 hu; rfl, ?_⟩
  rw [hd, hsp]
  refine h3.imp (fun ⟨xs, e1, e2, e3⟩ => ⟨xs, e1, e2, _, css, rfl, ?_, e3⟩) id
  have : xs.length = l.length := by rw [e3.length, h1]
  show Cs w S s.cells _ (List.length (α := s.El) xs) _
  rw [this]
  exact hv
theorem SOut.noList {s : Sh} {w : World} {S : Nat → Prop} {x : List UInt8} {v : Value} {bad : Bool} (hsp : splitB x = none) (hv : v.oneCell' = true) : SOut (.list s) w S x [v] bad true := by
  have hd : (Sh.list s).dec x = (match splitB x with | none => none | some l => allO (l.map s.dec)) := rfl
  refine ⟨rfl, fun u hu => by obtain rfl := List.mem_singleton.1 hu; exact hv, .inr ⟨?_, rfl⟩⟩
  rw [hd, hsp]
theorem Own.tail_ {w : World} {e : TypeId} {size n : Nat} {v : Value} {xs : List Value} (h : Own w e size v n xs) : xs.length = n * size := h.1
def AllI (T : TypeId) (size : Nat) (s : Sh) (w wS : World) (X : Nat → Prop) (E g : Nat) (sent : Value) (rows : List (List UInt8)) (bad : Bool) (l : List (List UInt8)) (o : Value) (k : Nat) (wr : World) : Prop :=
  ∃ css bk, Own wr T size o k css.flatten ∧ (∀ b, o.ownBlock = some b → wS.heap.size ≤ b) ∧ LOut s wr (fun b => Nw w.heap.size wr b ∧ o.ownBlock ≠ some b) (l.take k) css bad bk ∧ Pt wr (fun b => X b ∨ o.ownBlock = some b) E g sent rows bk ∧ Chg (fun b => b = g) wS wr
theorem AllI.start {T : TypeId} {size : Nat} {s : Sh} {w wS : World} {X : Nat → Prop} {E g : Nat} {sent : Value} {rows : List (List UInt8)} {bad : Bool} {l : List (List UInt8)} (hp : Pt wS X E g sent rows bad) : AllI T size s w wS X E g sent rows bad l (.slice none 0 0) 0 wS :=
  ⟨[], bad, Own.nil_ _ _ _, fun b hb => by simp [Value.ownBlock] at hb, LOut.nil_ _ _ _ _, hp.less (fun b h => h.elim id fun h => by simp [Value.ownBlock] at h) (.inl hp.2.2.1), Chg.refl _ _⟩
theorem AllI.step {T : TypeId} {size : Nat} {s : Sh} {w wS wr w3 wb w6 : World} {X : Nat → Prop} {E g k : Nat} {sent o o' : Value} {rows l : List (List UInt8)} {bad bk b2 : Bool} {css : List (List Value)} {y : List UInt8} {C : List Value} {ob : Obj}
    (hgw : g < w.heap.size) (hwS : w.heap.size ≤ wS.heap.size) (hown : Own wr T size o k css.flatten) (hob : ∀ b, o.ownBlock = some b → wS.heap.size ≤ b) (hlo : LOut s wr (fun b => Nw w.heap.size wr b ∧ o.ownBlock ≠ some b) (l.take k) css bad bk) (hch : Chg (fun b => b = g) wS wr)
    (hb3 : Below wr.heap.size wr w3) (ho : SOut s w3 (Nw wr.heap.size w3) y C bk b2) (hcb : Chg (fun b => b = g) w3 wb) (hpb : Pt wb (fun b => X b ∨ o.ownBlock = some b) E g sent rows b2) (hky : l.take (k + 1) = l.take k ++ [y])
    (ho6 : Own w6 T size o' (k + 1) (css.flatten ++ C)) (hc6 : Chg (fun b => o.ownBlock = some b) (wb.alloc ob) w6) (hat : o'.ownBlock = o.ownBlock ∨ o'.ownBlock = some (wb.alloc ob).heap.size) : AllI T size s w wS X E g sent rows bad l o' (k + 1) w6 := by
  have hal := (Below.refl wb.heap.size wb).alloc (Nat.le_refl _) ob
  have z1 := hch.size
  have z2 := hb3.size
  have z3 := hcb.size
  have z4 := hal.size
  have z5 := hc6.size
  have hol : ∀ b, o.ownBlock = some b → b < wr.heap.size := fun b hb => own_lt hown hb
  have hgX : X g := hpb.2.2.1.elim id fun h => absurd (hob g h) (by omega)
  have same : ∀ b, b < w3.heap.size → b ≠ g → o.ownBlock ≠ some b → w6.heap[b]? = w3.heap[b]? := fun b hb hg hne =>
    (hc6.block b (by omega) hne).trans ((hal.block b (by omega)).trans (hcb.block b hb hg))
  have hnew : ∀ b, b < w3.heap.size → o.ownBlock ≠ some b → o'.ownBlock ≠ some b := fun b hb hne e => by
    rcases hat with h | h
    · exact hne (h ▸ e)
    · rw [h] at e; injection e with e; omega
  refine ⟨css ++ [C], b2, by rw [List.flatten_append]; simpa using ho6, fun b hb => ?_, ?_, ?_, ?_⟩
  · rcases hat with h | h
    · exact hob b (h ▸ hb)
    · rw [h] at hb; injection hb with hb; omega
  · rw [hky]
    refine hlo.snoc (ho.to (w' := w6) (S' := fun b => Nw w.heap.size w6 b ∧ o'.ownBlock ≠ some b) (fun b hb hlt => ⟨by omega, same b hlt (by have := hb.1; omega) fun e => by have := hol b e; have := hb.1; omega⟩) fun b hb hlt => ⟨hb.to (by omega) (same b hlt (by have := hb.1; omega) fun e => by have := hol b e; have := hb.1; omega), hnew b hlt fun e => by have := hol b e; have := hb.1; omega⟩)
      (fun b hb hlt => ⟨by omega, (same b (by omega) (by have := hb.1.1; omega) hb.2).trans (hb3.block b hlt)⟩) fun b hb hlt => ⟨hb.1.to (Nat.le_refl _) ((same b (by omega) (by have := hb.1.1; omega) hb.2).trans (hb3.block b hlt)), hnew b (by omega) hb.2⟩
  · refine (hpb.below hal).grow hc6 (fun b hb => ⟨.inr hb, fun e => by have := hob b hb; omega⟩) (fun b hb => ?_) (.inl hgX)
    rcases hb with hb | hb
    · exact .inl (.inl hb)
    · rcases hat with h | h
      · exact .inl (.inr (h ▸ hb))
      · have := own_lt ho6 hb
        rw [h] at hb; injection hb with hb
        exact .inr ⟨by omega, by omega⟩
  · have h1 := hch.trans (Chg.of_below hb3 fun b => b = g) fun b h => .inl h
    have h2 := h1.trans hcb fun b h => .inl h
    exact (h2.alloc ob).trans hc6 fun b h => .inr (hob b h)
theorem AllI.out {T : TypeId} {size : Nat} {s : Sh} {w wS wr : World} {X : Nat → Prop} {E g : Nat} {sent o : Value} {x : List UInt8} {rows l : List (List UInt8)} {bad : Bool} (h : AllI T size s w wS X E g sent rows bad l o l.length wr) (hsz : s.cells = size) (hsp : splitB x = some l) (hval : ∀ y, (Sh.list s).val [y] = y)
    (hgX : X g) (hc : Chg (fun b => b = g) w wS) : Took (.list s) w X E g sent x rows bad (.returned o) wr := by
  obtain ⟨css, bk, hown, hob, hlo, hpt, hch⟩ := h
  subst hsz
  rw [List.take_length] at hlo
  have hlo2 := hlo.to (w' := wr) (S' := Nw w.heap.size wr) (fun b _ hlt => ⟨hlt, rfl⟩) fun b hb _ => hb.1
  have := hc.size
  exact ⟨[o], bk, by rw [hval], hc.trans hch fun b h => .inl h, hpt.less (fun b h => .inl h) hgX, hlo2.list hsp (Cs.of_own hown fun k hk => ⟨Nat.le_trans this (hob k hk), own_th hown hk⟩)⟩
end
section
open Go.RowKit Go.Maps
attribute [-simp] Tryz.isAgg37 Tryz.typeInfo37 Tryz.isAgg125 Tryz.typeInfo125
theorem size_allHeader_any : (Tryz.prog.info? 125).map (·.size) = some 101 := by kernel_rfl
theorem sizes_allHeader_any : (Tryz.prog.info? 125).map (fun i => (i.zero.map (fun z => z.cells.size), i.size)) = some (some 101, 101) := by kernel_rfl
theorem info_allHeader_any : (Tryz.prog.info? 125).map (fun i => (i.zero, i.size, i.bytes)) = some (some (.agg (([.int .i64 0, .int .i64 0, .int .i64 0, .int .i64 0] ++ List.replicate 96 (.int .u8 0) ++ [.int .i64 0] : List Value)).toArray), 101, 136) := by kernel_rfl
set_option maxHeartbeats 8000000 in
set_option maxRecDepth 100000 in
theorem allHeader_any (w : World) {X : Nat → Prop} {E g : Nat} {sent : Value} {x : List UInt8} {rows : List (List UInt8)} {bad : Bool} (h : Pt w X E g sent (x :: rows) bad) (hxl : x.length ≤ 262144) :
    Calls Tryz.prog 106 #[.pointer (some ⟨g, 0, none⟩), .func (Fn.func 107) #[] #[]] w (Took (.list tHeader) w X E g sent x rows bad) := by
  have hgx := h.2.2.1
  have hgw := h.lt
  have hEw := h.2.2.2.2.1
  have HGX := Lib.hid hgx
  have HX1 := Lib.hid (show ∀ b, X b → b < w.heap.size from h.2.2.2.1)
  have H := Lib.hid (next_any _ h)
  clear h hgx
  go_enter Tryz.func106, Tryz.ntmps106
  go_wp2_with fail
  refine H.out.mono ?_
  rintro e w1 ⟨v1, rfl, hb1, hc1, hp1⟩
  have HSP := Lib.hid (split_any w1 hb1 (by omega))
  have hz1 := hc1.size
  have HP1 := Lib.hid hp1
  have HC1 := Lib.hid hc1
  obtain ⟨A1, c1, rfl⟩ := hb1.form
  clear hb1 hp1 hc1 H
  go_wp2_with fail
  refine HSP.out.mono ?_
  rintro e w2 ⟨hb2, ⟨hno, rfl⟩ | ⟨v2, l, hsp, rfl, hbss⟩⟩
  · have HNO := Lib.hid hno; clear hno
    have hp2 := HP1.out.below hb2
    obtain ⟨⟨sa, rfl⟩, hgl⟩ := hp2.1
    have hgl : w2.cell? ⟨gF, 0, none⟩ = some _ := hgl
    unfold gF at hgl
    have hlx := hp2.2.2.2.1
    have hE2 := hp2.2.2.2.2.1
    have hal := (Below.refl w2.heap.size w2).alloc (Nat.le_refl _) (.cells #[.string ⟨#[97, 32, 108, 105, 115, 116]⟩, .iface 205 (.pointer (some sa))] 133)
    have HBAD := Lib.hid (bad_any _ (hp2.below hal) (Chain.fresh _ ⟨fun h => absurd (hlx _ h) (Nat.lt_irrefl _), hE2⟩))
    have HC2 := Lib.hid (HC1.out.trans (Chg.of_below hb2 fun k => k = g) fun b h => .inl h)
    clear hp2 hlx hal hE2 hb2 HP1 HC1 HSP
    go_wp2_with fail
    refine HBAD.out.mono ?_
    rintro e w3 ⟨rfl, hc3, hp3⟩
    have HP3 := Lib.hid hp3
    have HC3 := Lib.hid hc3
    clear hp3 hc3 HBAD
    go_wp2_with fail
    refine wp_loop_rounds 1 ?_
    rw [rounds_succ]
    go_wp2
    go_ret
    exact ⟨[.slice none 0 0], true, rfl, (HC2.out.alloc _).trans HC3.out fun b h => .inl h, HP3.out, SOut.noList HNO.out rfl⟩
  · have hrl : ∀ y ∈ l, y.length ≤ 262144 := fun y hy => Nat.le_trans (joinP_mem_le hsp y hy) hxl
    have hll : l.length ≤ 32768 := by
      have h1 := splitB_back hsp
      have h2 := joinP_count l
      rw [← h1, joinB_length] at hxl
      omega
    obtain ⟨A2, c2, rfl⟩ := hbss.form
    have HROWS := Lib.hid (((hbss.read fun y hy => by have := hrl y hy; omega).lt_ (T := fun b => w1.heap.size ≤ b) fun b h => h.elim id id).subs (T := fun b => b ≠ g) fun b hb _ => by have := hb.1; omega)
    have HP2 := Lib.hid (HP1.out.below hb2)
    have HC2 := Lib.hid (HC1.out.trans (Chg.of_below hb2 fun k => k = g) fun b h => .inl h)
    have HSPL := Lib.hid hsp
    have HRL := Lib.hid hrl
    have hwS : w.heap.size ≤ w2.heap.size := Nat.le_trans hz1 hb2.size
    clear hbss hsp hrl hb2 HP1 HC1 HSP hxl
    go_wp2_with fail
    go_loopw [7, 28] (fun o i wr => ∃ k : Nat, k ≤ l.length ∧ i = .int .i64 k ∧ AllI 125 101 tHeader w w2 X E g sent rows bad l o k wr) (fun _ i _ => l.length - (intOf i).toNat)
    case atStart => exact ⟨0, Nat.zero_le _, rfl, AllI.start HP2.out⟩
    case round =>
      obtain ⟨k, hk, rfl, hI⟩ := hrel
      by_cases hlt : k < l.length
      · obtain ⟨css, bk, hown, hob, hlo, hpt, hch⟩ := hI
        obtain ⟨ba, oa, ua, rfl, hca, hua, _, hSb⟩ := (HROWS.out.chg hch (fun b hb h => hb h)).at_ hlt
        have htk : l.take (k + 1) = l.take k ++ [l[k]] := List.take_succ_eq_append_getElem hlt
        have hyl := HRL.out l[k] (List.getElem_mem hlt)
        obtain ⟨y, hy⟩ : ∃ y, y = l[k] := ⟨_, rfl⟩
        rw [← hy] at hua htk hyl
        have HR := Lib.hid (readHeader_any wr hua hyl hpt.1)
        obtain ⟨Ay, cy, rfl⟩ := hua.form
        obtain ⟨Ao, co, rfl⟩ := hown.form
        have HOWN := Lib.hid hown
        have HOB := Lib.hid hob
        have HLO := Lib.hid hlo
        have HPT := Lib.hid hpt
        have HCH := Lib.hid hch
        have HTK := Lib.hid htk
        have H63 := Lib.hid (show k + 1 ≤ maxLen ∧ (k + 1) * 136 ≤ 140737488355328 from ⟨by simp only [maxLen]; omega, by omega⟩)
        have hzr := hch.size
        clear hown hob hlo hpt hch htk hy hua hyl
        go_wp2_with fail
        refine HR.out.mono ?_
        rintro e w3 hro
        obtain ⟨C, err, bd, rfl, h1, hl, hb3, he, ho⟩ := hro.agg (fun _ => rfl)
        have hl : C.length = 101 := hl
        have HL := Lib.hid hl
        have HI := Lib.hid (show (Tryz.prog.info? 125).map (·.size) = some C.length from by rw [hl]; exact size_allHeader_any)
        have HI2 := Lib.hid (show (Tryz.prog.info? 125).map (fun i => (i.zero.map (fun z => z.cells.size), i.size)) = some (some C.length, C.length) from by rw [hl]; exact sizes_allHeader_any)
        have H1 := Lib.hid h1
        clear h1 hl
        have HB3 := Lib.hid hb3
        have HP3 := Lib.hid (HPT.out.below hb3)
        have HO := Lib.hid (ho.or_ bk)
        clear hro hb3 ho HR
        rcases he with ⟨rfl, rfl⟩ | ⟨rfl, hcn⟩
        · skip
          go_wp2_with (first
            | (refine wpList_store_blk (cs0 := ([.int .i64 0, .int .i64 0, .int .i64 0, .int .i64 0] ++ List.replicate 96 (.int .u8 0) ++ [.int .i64 0] : List Value)) (cs := C) rfl 125 _ _ rfl (Blk.new w3 _ _) rfl rfl (by rw [HL.out]; rfl) HI.out H1.out ?_; intro w4 hb4 hc4; have HB4 := Lib.hid hb4; have HC4 := Lib.hid (show Chg (fun _ => False) w3 w4 from ((Chg.refl _ w3).alloc _).trans hc4 fun b h => .inr (Nat.le_of_eq h.symm)); clear hb4 hc4; have HO2 := Lib.hid (show ∀ ob, Own (w4.alloc ob) 125 101 (.slice Ao k co) k css.flatten from fun ob => own_keep HOWN.out fun b hb => (by have h1 := own_lt HOWN.out hb; have h2 := HOB.out b hb; have h3 := HB3.out.size; exact (Below.heap_alloc w4 ob b (ltle (ltle h1 h3) HC4.out.size)).trans ((HC4.out.block b (ltle h1 h3) id).trans (HB3.out.block b h1)))); have HS2 := Lib.hid (Cs.of_new w4 125 (size := 101) 1 (cs := C) (by rw [HL.out]) (by simp only [maxLen]; decide)))
            | (refine wpList_load_blk' rfl 125 _ rfl HB4.out rfl Tryz.underlying125 rfl HI.out ?_)
            | (refine wpList_row1 rfl 85 125 _ rfl Tryz.underlying85 (.agg C.toArray) rfl C rfl HI2.out (by rw [HL.out]; decide) (by rw [HL.out]; decide) ?_)
            | (at_builtin; refine wpList_app _ rfl _ _ _ rfl Tryz.underlying85 info_allHeader_any rfl (by decide) (HO2.out _) rfl HS2.out rfl H1.out H63.out.1 H63.out.2 ?_; intro v6 w6 ho6 hc6 hnil6 hat6; clear hnil6; have HO6 := Lib.hid ho6; clear ho6; have HC6 := Lib.hid hc6; clear hc6; have HAT6 := Lib.hid hat6; clear hat6))
          refine ⟨⟨k + 1, by omega, by push_cast; rfl, AllI.step hgw hwS HOWN.out HOB.out HLO.out HCH.out HB3.out (by have := HO.out; rw [Bool.or_false] at this; exact this) (HC4.out.mono (M' := fun b => b = g) fun _ h => h.elim) (HP3.out.chg HC4.out fun b h => h.elim) HTK.out HO6.out HC6.out HAT6.out⟩, ?_⟩
          simp only [intOf]; omega
        · skip
          obtain ⟨gw, rfl⟩ := hcn.form
          have HCN := Lib.hid hcn; clear hcn
          go_wp2_with (refine wpList_store_blk (cs0 := ([.int .i64 0, .int .i64 0, .int .i64 0, .int .i64 0] ++ List.replicate 96 (.int .u8 0) ++ [.int .i64 0] : List Value)) (cs := C) rfl 125 _ _ rfl (Blk.new w3 _ _) rfl rfl (by rw [HL.out]; rfl) HI.out H1.out ?_; intro w4 hb4 hc4; have HB4 := Lib.hid hb4; have HC4 := Lib.hid (show Chg (fun _ => False) w3 w4 from ((Chg.refl _ w3).alloc _).trans hc4 fun b h => .inr (Nat.le_of_eq h.symm)); clear hb4 hc4)
          have hp4 := (HP3.out.chg HC4.out fun b h => h.elim)
          have hlx := hp4.2.2.2.1
          have hE4 := hp4.2.2.2.2.1
          have hz4 := HC4.out.size
          have hz3 := HB3.out.size
          have hal := (Below.refl w4.heap.size w4).alloc (Nat.le_refl _) (.cells #[.string ⟨#[105, 110, 32, 97, 32, 108, 105, 115, 116]⟩, .iface 129 (.pointer (some ⟨gw, 0, none⟩))] 133)
          have hcn4 := (HCN.out.to (w' := w4) (S' := fun b => ¬ (X b ∨ (Value.slice Ao k co).ownBlock = some b) ∧ E ≤ b) (fun b hb hlt => ⟨ltle hlt HC4.out.size, HC4.out.block b hlt id⟩) fun b hb hlt => ⟨fun h => h.elim (fun h => by have := HX1.out b h; omega) fun h => by have := own_lt HOWN.out h; omega, by omega⟩)
          have HBAD := Lib.hid (bad_any _ (hp4.below hal) (hcn4.freshMore _ ⟨fun h => absurd (hlx _ h) (Nat.lt_irrefl _), hE4⟩))
          clear hp4 hlx hal hcn4 hE4
          refine HBAD.out.mono ?_
          rintro e w5 ⟨rfl, hc5, hp5⟩
          have HP5 := Lib.hid hp5
          have HC35 := Lib.hid (show Chg (fun b => b = g) w3 w5 from ((HC4.out.mono (M' := fun b => b = g) fun _ h => h.elim).alloc _).trans hc5 fun b h => .inl h)
          have HB5 := Lib.hid ((HB4.out.alloc _).chg hc5 (fun h => by omega))
          clear hc5 hp5 HBAD
          have HO2 := Lib.hid (show ∀ ob, Own (w5.alloc ob) 125 101 (.slice Ao k co) k css.flatten from fun ob => own_keep HOWN.out fun b hb => (by have h1 := own_lt HOWN.out hb; have h2 := HOB.out b hb; have h3 := HB3.out.size; exact (Below.heap_alloc w5 ob b (ltle (ltle h1 h3) HC35.out.size)).trans ((HC35.out.block b (ltle h1 h3) (fun e => by omega)).trans (HB3.out.block b h1))))
          have HS2 := Lib.hid (Cs.of_new w5 125 (size := 101) 1 (cs := C) (by rw [HL.out]) (by simp only [maxLen]; decide))
          go_wp2_with (first
            | (refine wpList_load_blk' rfl 125 _ rfl HB5.out rfl Tryz.underlying125 rfl HI.out ?_)
            | (refine wpList_row1 rfl 85 125 _ rfl Tryz.underlying85 (.agg C.toArray) rfl C rfl HI2.out (by rw [HL.out]; decide) (by rw [HL.out]; decide) ?_)
            | (at_builtin; refine wpList_app _ rfl _ _ _ rfl Tryz.underlying85 info_allHeader_any rfl (by decide) (HO2.out _) rfl HS2.out rfl H1.out H63.out.1 H63.out.2 ?_; intro v6 w6 ho6 hc6 hnil6 hat6; clear hnil6; have HO6 := Lib.hid ho6; clear ho6; have HC6 := Lib.hid hc6; clear hc6; have HAT6 := Lib.hid hat6; clear hat6))
          refine ⟨⟨k + 1, by omega, by push_cast; rfl, AllI.step hgw hwS HOWN.out HOB.out HLO.out HCH.out HB3.out (by have := HO.out; rw [Bool.or_true] at this; exact this) HC35.out HP5.out HTK.out HO6.out HC6.out HAT6.out⟩, ?_⟩
          simp only [intOf]; omega
      · have hk' : k = l.length := by omega
        subst hk'
        have HI := Lib.hid hI
        clear hI
        go_wp2_with fail
        go_ret
        exact HI.out.out rfl HSPL.out (fun _ => rfl) HGX.out HC2.out
end
section
open Go.RowKit Go.Maps
theorem size_allInt_any : (Tryz.prog.info? 3).map (·.size) = some 1 := by kernel_rfl
theorem sizes_allInt_any : (Tryz.prog.info? 3).map (fun i => (i.zero.map (fun z => z.cells.size), i.size)) = some (some 1, 1) := by kernel_rfl
theorem info_allInt_any : (Tryz.prog.info? 3).map (fun i => (i.zero, i.size, i.bytes)) = some (some (.int .i64 0), 1, 8) := by kernel_rfl
set_option maxHeartbeats 8000000 in
set_option maxRecDepth 100000 in
theorem allInt_any (w : World) {X : Nat → Prop} {E g : Nat} {sent : Value} {x : List UInt8} {rows : List (List UInt8)} {bad : Bool} (h : Pt w X E g sent (x :: rows) bad) (hxl : x.length ≤ 262144) :
    Calls Tryz.prog 112 #[.pointer (some ⟨g, 0, none⟩), .func (Fn.func 113) #[] #[]] w (Took (.list i64) w X E g sent x rows bad) := by
  have hgx := h.2.2.1
  have hgw := h.lt
  have hEw := h.2.2.2.2.1
  have HGX := Lib.hid hgx
  have HX1 := Lib.hid (show ∀ b, X b → b < w.heap.size from h.2.2.2.1)
  have H := Lib.hid (next_any _ h)
  clear h hgx
  go_enter Tryz.func112, Tryz.ntmps112
  go_wp2_with fail
  refine H.out.mono ?_
  rintro e w1 ⟨v1, rfl, hb1, hc1, hp1⟩
  have HSP := Lib.hid (split_any w1 hb1 (by omega))
  have hz1 := hc1.size
  have HP1 := Lib.hid hp1
  have HC1 := Lib.hid hc1
  obtain ⟨A1, c1, rfl⟩ := hb1.form
  clear hb1 hp1 hc1 H
  go_wp2_with fail
  refine HSP.out.mono ?_
  rintro e w2 ⟨hb2, ⟨hno, rfl⟩ | ⟨v2, l, hsp, rfl, hbss⟩⟩
  · have HNO := Lib.hid hno; clear hno
    have hp2 := HP1.out.below hb2
    obtain ⟨⟨sa, rfl⟩, hgl⟩ := hp2.1
    have hgl : w2.cell? ⟨gF, 0, none⟩ = some _ := hgl
    unfold gF at hgl
    have hlx := hp2.2.2.2.1
    have hE2 := hp2.2.2.2.2.1
    have hal := (Below.refl w2.heap.size w2).alloc (Nat.le_refl _) (.cells #[.string ⟨#[97, 32, 108, 105, 115, 116]⟩, .iface 205 (.pointer (some sa))] 133)
    have HBAD := Lib.hid (bad_any _ (hp2.below hal) (Chain.fresh _ ⟨fun h => absurd (hlx _ h) (Nat.lt_irrefl _), hE2⟩))
    have HC2 := Lib.hid (HC1.out.trans (Chg.of_below hb2 fun k => k = g) fun b h => .inl h)
    clear hp2 hlx hal hE2 hb2 HP1 HC1 HSP
    go_wp2_with fail
    refine HBAD.out.mono ?_
    rintro e w3 ⟨rfl, hc3, hp3⟩
    have HP3 := Lib.hid hp3
    have HC3 := Lib.hid hc3
    clear hp3 hc3 HBAD
    go_wp2_with fail
    refine wp_loop_rounds 1 ?_
    rw [rounds_succ]
    go_wp2
    go_ret
    exact ⟨[.slice none 0 0], true, rfl, (HC2.out.alloc _).trans HC3.out fun b h => .inl h, HP3.out, SOut.noList HNO.out rfl⟩
  · have hrl : ∀ y ∈ l, y.length ≤ 262144 := fun y hy => Nat.le_trans (joinP_mem_le hsp y hy) hxl
    have hll : l.length ≤ 32768 := by
      have h1 := splitB_back hsp
      have h2 := joinP_count l
      rw [← h1, joinB_length] at hxl
      omega
    obtain ⟨A2, c2, rfl⟩ := hbss.form
    have HROWS := Lib.hid (((hbss.read fun y hy => by have := hrl y hy; omega).lt_ (T := fun b => w1.heap.size ≤ b) fun b h => h.elim id id).subs (T := fun b => b ≠ g) fun b hb _ => by have := hb.1; omega)
    have HP2 := Lib.hid (HP1.out.below hb2)
    have HC2 := Lib.hid (HC1.out.trans (Chg.of_below hb2 fun k => k = g) fun b h => .inl h)
    have HSPL := Lib.hid hsp
    have HRL := Lib.hid hrl
    have hwS : w.heap.size ≤ w2.heap.size := Nat.le_trans hz1 hb2.size
    clear hbss hsp hrl hb2 HP1 HC1 HSP hxl
    go_wp2_with fail
    go_loopw [7, 28] (fun o i wr => ∃ k : Nat, k ≤ l.length ∧ i = .int .i64 k ∧ AllI 3 1 i64 w w2 X E g sent rows bad l o k wr) (fun _ i _ => l.length - (intOf i).toNat)
    case atStart => exact ⟨0, Nat.zero_le _, rfl, AllI.start HP2.out⟩
    case round =>
      obtain ⟨k, hk, rfl, hI⟩ := hrel
      by_cases hlt : k < l.length
      · obtain ⟨css, bk, hown, hob, hlo, hpt, hch⟩ := hI
        obtain ⟨ba, oa, ua, rfl, hca, hua, _, hSb⟩ := (HROWS.out.chg hch (fun b hb h => hb h)).at_ hlt
        have htk : l.take (k + 1) = l.take k ++ [l[k]] := List.take_succ_eq_append_getElem hlt
        have hyl := HRL.out l[k] (List.getElem_mem hlt)
        obtain ⟨y, hy⟩ : ∃ y, y = l[k] := ⟨_, rfl⟩
        rw [← hy] at hua htk hyl
        have HR := Lib.hid (readNum_any wr hua hyl hpt.1)
        obtain ⟨Ay, cy, rfl⟩ := hua.form
        obtain ⟨Ao, co, rfl⟩ := hown.form
        have HOWN := Lib.hid hown
        have HOB := Lib.hid hob
        have HLO := Lib.hid hlo
        have HPT := Lib.hid hpt
        have HCH := Lib.hid hch
        have HTK := Lib.hid htk
        have H63 := Lib.hid (show k + 1 ≤ maxLen ∧ (k + 1) * 8 ≤ 140737488355328 from ⟨by simp only [maxLen]; omega, by omega⟩)
        have hzr := hch.size
        clear hown hob hlo hpt hch htk hy hua hyl
        go_wp2_with fail
        refine HR.out.mono ?_
        rintro e w3 hro
        obtain ⟨y0, err, bd, rfl, h1, hb3, he, ho⟩ := hro.one (fun _ => rfl) rfl
        have HY1 := Lib.hid h1
        have H1 := Lib.hid (show ∀ u ∈ [y0], u.oneCell' = true from fun u hu => by obtain rfl := List.mem_singleton.1 hu; exact h1)
        have HI2 := Lib.hid sizes_allInt_any
        clear h1
        have HB3 := Lib.hid hb3
        have HP3 := Lib.hid (HPT.out.below hb3)
        have HO := Lib.hid (ho.or_ bk)
        clear hro hb3 ho HR
        rcases he with ⟨rfl, rfl⟩ | ⟨rfl, hcn⟩
        · skip
          have HO2 := Lib.hid (show ∀ ob, Own (w3.alloc ob) 3 1 (.slice Ao k co) k css.flatten from fun ob => own_keep HOWN.out fun b hb => (by have h1 := own_lt HOWN.out hb; have h2 := HOB.out b hb; have h3 := HB3.out.size; exact (Below.heap_alloc w3 ob b (ltle h1 h3)).trans (HB3.out.block b h1)))
          have HS2 := Lib.hid (Cs.of_new w3 3 (size := 1) 1 (cs := [y0]) rfl (by simp only [maxLen]; decide))
          go_wp2_with (first
            | (refine wpList_row1 rfl 32 3 _ rfl Tryz.underlying32 y0 rfl [y0] (cells_one HY1.out) HI2.out (by simp) (by simp) ?_)
            | (at_builtin; refine wpList_app _ rfl _ _ _ rfl Tryz.underlying32 info_allInt_any rfl (by decide) (HO2.out _) rfl HS2.out rfl H1.out H63.out.1 H63.out.2 ?_; intro v6 w6 ho6 hc6 hnil6 hat6; clear hnil6; have HO6 := Lib.hid ho6; clear ho6; have HC6 := Lib.hid hc6; clear hc6; have HAT6 := Lib.hid hat6; clear hat6))
          refine ⟨⟨k + 1, by omega, by push_cast; rfl, AllI.step hgw hwS HOWN.out HOB.out HLO.out HCH.out HB3.out (by have := HO.out; rw [Bool.or_false] at this; exact this) (Chg.refl (fun b => b = g) w3) HP3.out HTK.out HO6.out HC6.out HAT6.out⟩, ?_⟩
          simp only [intOf]; omega
        · skip
          obtain ⟨gw, rfl⟩ := hcn.form
          have HCN := Lib.hid hcn; clear hcn
          have hp4 := HP3.out
          have hlx := hp4.2.2.2.1
          have hE4 := hp4.2.2.2.2.1
          have hz4 := Nat.le_refl w3.heap.size
          have hz3 := HB3.out.size
          have hal := (Below.refl w3.heap.size w3).alloc (Nat.le_refl _) (.cells #[.string ⟨#[105, 110, 32, 97, 32, 108, 105, 115, 116]⟩, .iface 129 (.pointer (some ⟨gw, 0, none⟩))] 133)
          have hcn4 := (HCN.out.to (w' := w3) (S' := fun b => ¬ (X b ∨ (Value.slice Ao k co).ownBlock = some b) ∧ E ≤ b) (fun b hb hlt => ⟨hlt, rfl⟩) fun b hb hlt => ⟨fun h => h.elim (fun h => by have := HX1.out b h; omega) fun h => by have := own_lt HOWN.out h; omega, by omega⟩)
          have HBAD := Lib.hid (bad_any _ (hp4.below hal) (hcn4.freshMore _ ⟨fun h => absurd (hlx _ h) (Nat.lt_irrefl _), hE4⟩))
          clear hp4 hlx hal hcn4 hE4
          go_wp2_with fail
          refine HBAD.out.mono ?_
          rintro e w5 ⟨rfl, hc5, hp5⟩
          have HP5 := Lib.hid hp5
          have HC35 := Lib.hid (show Chg (fun b => b = g) w3 w5 from ((Chg.refl (fun b => b = g) w3).alloc _).trans hc5 fun b h => .inl h)
          clear hc5 hp5 HBAD
          have HO2 := Lib.hid (show ∀ ob, Own (w5.alloc ob) 3 1 (.slice Ao k co) k css.flatten from fun ob => own_keep HOWN.out fun b hb => (by have h1 := own_lt HOWN.out hb; have h2 := HOB.out b hb; have h3 := HB3.out.size; exact (Below.heap_alloc w5 ob b (ltle (ltle h1 h3) HC35.out.size)).trans ((HC35.out.block b (ltle h1 h3) (fun e => by omega)).trans (HB3.out.block b h1))))
          have HS2 := Lib.hid (Cs.of_new w5 3 (size := 1) 1 (cs := [y0]) rfl (by simp only [maxLen]; decide))
          go_wp2_with (first
            | (refine wpList_row1 rfl 32 3 _ rfl Tryz.underlying32 y0 rfl [y0] (cells_one HY1.out) HI2.out (by simp) (by simp) ?_)
            | (at_builtin; refine wpList_app _ rfl _ _ _ rfl Tryz.underlying32 info_allInt_any rfl (by decide) (HO2.out _) rfl HS2.out rfl H1.out H63.out.1 H63.out.2 ?_; intro v6 w6 ho6 hc6 hnil6 hat6; clear hnil6; have HO6 := Lib.hid ho6; clear ho6; have HC6 := Lib.hid hc6; clear hc6; have HAT6 := Lib.hid hat6; clear hat6))
          refine ⟨⟨k + 1, by omega, by push_cast; rfl, AllI.step hgw hwS HOWN.out HOB.out HLO.out HCH.out HB3.out (by have := HO.out; rw [Bool.or_true] at this; exact this) HC35.out HP5.out HTK.out HO6.out HC6.out HAT6.out⟩, ?_⟩
          simp only [intOf]; omega
      · have hk' : k = l.length := by omega
        subst hk'
        have HI := Lib.hid hI
        clear hI
        go_wp2_with fail
        go_ret
        exact HI.out.out rfl HSPL.out (fun _ => rfl) HGX.out HC2.out
end
section
open Go.RowKit Go.Maps
attribute [-simp] Tryz.isAgg37 Tryz.typeInfo37 Tryz.isAgg148 Tryz.typeInfo148
theorem info_readSig : (Tryz.prog.info? 148).map (fun i => (i.zero.map (fun z => z.cells.size))) = some (some 33) := by kernel_rfl
theorem size_readSig : (Tryz.prog.info? 148).map (·.size) = some 33 := by kernel_rfl
theorem places_readSig : ((match Tryz.prog.underlying 148 with | some (.struct fields) => fields.toList.mapM (fun f => (Tryz.prog.info? f.type).map fun i => (f.offset, i.size)) | _ => none)) = some [(0, 1), (1, 32)] := by kernel_rfl
set_option maxHeartbeats 4000000 in
set_option maxRecDepth 100000 in
theorem readSig_any (w : World) {S : Nat → Prop} {v sent : Value} {bs : List UInt8} (h : Bs w S v bs) (hlen : bs.length ≤ 262144) (hg : Gl w sent) :
    Calls Tryz.prog 115 #[v] w (ReadOut (.tup (.cons i64 (.cons .dig .nil))) w sent bs) := by
  have hal := (Below.refl w.heap.size w).alloc (Nat.le_refl _) (.cells (([.int .i64 0] ++ List.replicate 32 (.int .u8 0) : List Value)).toArray 148)
  have HS := Lib.hid (psplit_any _ (h.below hal) (by omega) (hg.below hal) 2 (by omega) ⟨#[97, 32, 115, 105, 103, 110, 97, 116, 117, 114, 101]⟩)
  have HN := Lib.hid (Blk.new w 148 (([.int .i64 0] ++ List.replicate 32 (.int .u8 0) : List Value)).toArray)
  have HAL := Lib.hid hal
  obtain ⟨A, cap, rfl⟩ := h.form
  clear h hg hal
  go_enter Tryz.func115, Tryz.ntmps115
  go_wp2_with fail
  refine HS.out.mono ?_
  rintro e w1 ⟨g, rows, bad, rfl, hgw, hb1, hp, hn, hrl, hs⟩
  obtain ⟨r0, r1, rfl⟩ : ∃ r0 r1, rows = [r0, r1] := by
    match rows, hn with
    | [r0, r1], _ => exact ⟨r0, r1, rfl⟩
  have HK := Lib.hid (HN.out.below hb1 (by simp))
  have hgw' : w.heap.size + 1 ≤ g := by simpa using hgw
  have hz1 : w.heap.size + 1 ≤ w1.heap.size := by simpa using hb1.size
  have HB1 := Lib.hid (HAL.out.trans (hb1.mono (by simp)))
  have HSS := Lib.hid hs
  have HRL := Lib.hid (show ∀ x ∈ [r0, r1], x.length ≤ 262144 from fun x hx => Nat.le_trans (hrl x hx) hlen)
  have hE : Pt w1 (fun b => b = g) (w.heap.size + 1) g sent [r0, r1] bad := by simpa using hp
  clear HS HN HAL hgw hb1 hs hn hp hrl hlen
  have hp0 := hE
  clear hE
  go_wp2_with fail
  refine (n_any _ hp0).mono ?_
  rintro e w2 ht
  obtain ⟨y0, b0, rfl, h10, hc0, hp1, ho0⟩ := ht.one (fun _ => rfl) rfl
  have hgl0 := hp0.lt
  have hz2 := Nat.le_trans hz1 hc0.size
  have HO0 := Lib.hid ho0
  have HC0 := Lib.hid hc0
  have H10 := Lib.hid h10
  clear ht ho0 hc0 h10 hp0
  go_wp2_with fail
  refine (pdigest_any _ hp1).mono ?_
  rintro e w3 ht
  obtain ⟨c1, b1, rfl, h11, hl1, hc1, hp2, ho1⟩ := ht.agg (fun _ => rfl)
  have hl1 : c1.length = 32 := hl1
  have hgl1 := hp1.lt
  have hz3 := Nat.le_trans hz2 hc1.size
  have HO1 := Lib.hid ho1
  have HC1 := Lib.hid hc1
  have H11 := Lib.hid h11
  have HL1 := Lib.hid hl1
  clear hl1
  clear ht ho1 hc1 h11 hp1
  have hbu := run_struct (P := Tryz.prog) (vs := [y0, .agg c1.toArray]) (cs := [[y0], c1]) info_readSig places_readSig ⟨cells_one H10.out, rfl, trivial⟩ (by simp [PlaceOk, HL1.out]) (by simp [HL1.out]) #[(0, y0), (1, .agg c1.toArray)] rfl
  have hone : ∀ v ∈ [[y0], c1].flatten, v.oneCell' = true := by
    intro v hv
    simp only [List.flatten_cons, List.flatten_nil, List.mem_append, List.mem_singleton, List.not_mem_nil, or_false] at hv
    rcases hv with rfl | hv
    · exact H10.out
    · exact H11.out v hv
  have HOUT := Lib.hid (show Fs.Out (.cons i64 (.cons .dig .nil)) w3 (Nw (w.heap.size + 1) w3) [r0, r1] [[y0], c1].flatten bad b1 from by
    have := Fs.Out.step HO0.out (Fs.Out.step HO1.out (Fs.Out.nil_ w3 _ _) (Chg.refl _ _) hgl1 hz2) HC1.out hgl0 hz1
    simpa using this)
  have HCA := Lib.hid (show Chg (fun k => k = g) w1 w3 from (HC0.out.trans HC1.out fun b h => .inl h))
  have hcl : [[y0], c1].flatten.length = 33 := by simp [HL1.out]
  obtain ⟨C, hC⟩ : ∃ C, C = [[y0], c1].flatten := ⟨_, rfl⟩
  rw [← hC] at hbu hone hcl HOUT
  have HBU := Lib.hid hbu
  have HONE := Lib.hid hone
  have HCL := Lib.hid hcl
  have HI := Lib.hid (show (Tryz.prog.info? 148).map (·.size) = some C.length from by rw [hcl]; exact size_readSig)
  have HK2 := Lib.hid (HK.out.chg HCA.out (show ¬ w.heap.size = g from by omega))
  clear hbu hone hcl hC HK HO0 HC0 H10 HO1 HC1 H11 HL1
  have HP := Lib.hid hp2
  have hgX := hp2.lt
  clear hp2
  have hbu := HBU.out w3
  have HX := Lib.hid (HP.out.parts)
  go_wp2_with (first | (refine wpList_build_ rfl 148 _ rfl #[(0, y0), (1, .agg c1.toArray)] (by simp [Act.eval]) _ hbu ?_) | (refine wpList_store_blk (cs0 := ([.int .i64 0] ++ List.replicate 32 (.int .u8 0) : List Value)) (cs := C) rfl 148 _ _ rfl (Blk.new w3 _ _) rfl rfl (by rw [HCL.out]; rfl) HI.out HONE.out ?_; intro wx hbx hcx; have HBX := Lib.hid hbx; have HCX := Lib.hid hcx; clear hbx hcx))
  obtain ⟨vy, ey, hblk, herr⟩ := HX.out
  have HCX' := Lib.hid (show Chg (fun _ => False) w3 wx from ((Chg.refl _ w3).alloc _).trans HCX.out fun b h => .inr (Nat.le_of_eq h.symm))
  have HGX := Lib.hid (hblk.chg HCX'.out id)
  have HKX := Lib.hid (HK2.out.chg HCX'.out id)
  have HE := Lib.hid herr
  clear hbu hblk herr HX HBU
  refine wp_region_hoist [0, 1, 2, 3, 4] [5] [6] (fun w' => Blk w' w3.heap.size 148 C.toArray ∧ Blk w' g 144 #[vy, ey])
    (by kernel_rfl) (by kernel_rfl) (by kernel_rfl) (by kernel_rfl) (by kernel_rfl) (by kernel_rfl) ⟨HBX.out.drew, HGX.out.drew⟩ ?_
  (refine HoistK.load (by rfl) (by kernel_rfl) 148 _ rfl w3.heap.size 0 rfl C _ (fun w' hw => hw.1.range) Tryz.underlying148 rfl HI.out ?_; simp only [Act.put, setIfInBounds_toArray, getElem_toArray, getElem_cons_zero, set_cons_succ, set_cons_zero])
  iterate 3 (refine HoistK.yes (by rfl) (by kernel_rfl) ⟨?_, fun w' hSw => ?_, ?_⟩; rotate_left; (· go_simp; try with_reducible rfl); simp only [Act.put, setIfInBounds_toArray, getElem_toArray, getElem_cons_succ, getElem_cons_zero, set_cons_succ, set_cons_zero])
  (refine HoistK.yes (by rfl) (by kernel_rfl) ⟨?_, fun w' hSw => ?_, ?_⟩; rotate_left; (· have hcc := hSw.2.cell; go_simp; try with_reducible rfl); simp only [Act.put, setIfInBounds_toArray, getElem_toArray, getElem_cons_succ, getElem_cons_zero, set_cons_succ, set_cons_zero])
  refine HoistK.nil_ ?_
  simp only [opsAt, filterMap_cons, filterMap_nil, getElem?_toArray, getElem?_cons_succ, getElem?_cons_zero]
  refine Effects.cons_ fun _ hQ1 => ?_
  go_wp2_with (refine wpList_store_blk (cs0 := ([.int .i64 0] ++ List.replicate 32 (.int .u8 0) : List Value)) (cs := C) rfl 148 _ _ rfl HKX.out.drew rfl rfl (by rw [HCL.out]; rfl) HI.out HONE.out ?_; intro wy hby hcy; have HBY := Lib.hid hby; have HCY := Lib.hid hcy; clear hby hcy)
  refine hQ1 _ _ ⟨HBX.out.drew.chg HCY.out (fun h => by omega), HGX.out.drew.chg HCY.out (fun h => by omega)⟩ (Effects.nil_ fun _ hQ2 => ?_)
  go_wp2
  have hld := run_loadVar_mid (P := Tryz.prog) wy w.heap.size 0 148 C _ HBY.out.range Tryz.underlying148 rfl HI.out
  refine bodyPost_ret (v := .tuple #[.agg C.toArray, ey]) (by simp [results, Tryz.results115, asAddr, hld]) rfl ?_
  have hcf : Chg (fun b => b = w.heap.size) w3 wy := ((HCX'.out.mono fun _ h => h.elim).drew).trans HCY.out fun b h => .inl h
  exact ReadOut.mk (n := 2) HOUT.out HSS.out rfl HE.out (HB1.out.trans (HCA.out.below HB1.out.size fun b h => by omega)) hcf
end
section
open Go.RowKit Go.Maps
attribute [-simp] Tryz.isAgg37 Tryz.typeInfo37 Tryz.isAgg148 Tryz.typeInfo148
theorem size_allSig_any : (Tryz.prog.info? 148).map (·.size) = some 33 := by kernel_rfl
theorem sizes_allSig_any : (Tryz.prog.info? 148).map (fun i => (i.zero.map (fun z => z.cells.size), i.size)) = some (some 33, 33) := by kernel_rfl
theorem info_allSig_any : (Tryz.prog.info? 148).map (fun i => (i.zero, i.size, i.bytes)) = some (some (.agg (([.int .i64 0] ++ List.replicate 32 (.int .u8 0) : List Value)).toArray), 33, 40) := by kernel_rfl
set_option maxHeartbeats 8000000 in
set_option maxRecDepth 100000 in
theorem allSig_any (w : World) {X : Nat → Prop} {E g : Nat} {sent : Value} {x : List UInt8} {rows : List (List UInt8)} {bad : Bool} (h : Pt w X E g sent (x :: rows) bad) (hxl : x.length ≤ 262144) :
    Calls Tryz.prog 114 #[.pointer (some ⟨g, 0, none⟩), .func (Fn.func 115) #[] #[]] w (Took (.list tSig) w X E g sent x rows bad) := by
  have hgx := h.2.2.1
  have hgw := h.lt
  have hEw := h.2.2.2.2.1
  have HGX := Lib.hid hgx
  have HX1 := Lib.hid (show ∀ b, X b → b < w.heap.size from h.2.2.2.1)
  have H := Lib.hid (next_any _ h)
  clear h hgx
  go_enter Tryz.func114, Tryz.ntmps114
  go_wp2_with fail
  refine H.out.mono ?_
  rintro e w1 ⟨v1, rfl, hb1, hc1, hp1⟩
  have HSP := Lib.hid (split_any w1 hb1 (by omega))
  have hz1 := hc1.size
  have HP1 := Lib.hid hp1
  have HC1 := Lib.hid hc1
  obtain ⟨A1, c1, rfl⟩ := hb1.form
  clear hb1 hp1 hc1 H
  go_wp2_with fail
  refine HSP.out.mono ?_
  rintro e w2 ⟨hb2, ⟨hno, rfl⟩ | ⟨v2, l, hsp, rfl, hbss⟩⟩
  · have HNO := Lib.hid hno; clear hno
    have hp2 := HP1.out.below hb2
    obtain ⟨⟨sa, rfl⟩, hgl⟩ := hp2.1
    have hgl : w2.cell? ⟨gF, 0, none⟩ = some _ := hgl
    unfold gF at hgl
    have hlx := hp2.2.2.2.1
    have hE2 := hp2.2.2.2.2.1
    have hal := (Below.refl w2.heap.size w2).alloc (Nat.le_refl _) (.cells #[.string ⟨#[97, 32, 108, 105, 115, 116]⟩, .iface 205 (.pointer (some sa))] 133)
    have HBAD := Lib.hid (bad_any _ (hp2.below hal) (Chain.fresh _ ⟨fun h => absurd (hlx _ h) (Nat.lt_irrefl _), hE2⟩))
    have HC2 := Lib.hid (HC1.out.trans (Chg.of_below hb2 fun k => k = g) fun b h => .inl h)
    clear hp2 hlx hal hE2 hb2 HP1 HC1 HSP
    go_wp2_with fail
    refine HBAD.out.mono ?_
    rintro e w3 ⟨rfl, hc3, hp3⟩
    have HP3 := Lib.hid hp3
    have HC3 := Lib.hid hc3
    clear hp3 hc3 HBAD
    go_wp2_with fail
    refine wp_loop_rounds 1 ?_
    rw [rounds_succ]
    go_wp2
    go_ret
    exact ⟨[.slice none 0 0], true, rfl, (HC2.out.alloc _).trans HC3.out fun b h => .inl h, HP3.out, SOut.noList HNO.out rfl⟩
  · have hrl : ∀ y ∈ l, y.length ≤ 262144 := fun y hy => Nat.le_trans (joinP_mem_le hsp y hy) hxl
    have hll : l.length ≤ 32768 := by
      have h1 := splitB_back hsp
      have h2 := joinP_count l
      rw [← h1, joinB_length] at hxl
      omega
    obtain ⟨A2, c2, rfl⟩ := hbss.form
    have HROWS := Lib.hid (((hbss.read fun y hy => by have := hrl y hy; omega).lt_ (T := fun b => w1.heap.size ≤ b) fun b h => h.elim id id).subs (T := fun b => b ≠ g) fun b hb _ => by have := hb.1; omega)
    have HP2 := Lib.hid (HP1.out.below hb2)
    have HC2 := Lib.hid (HC1.out.trans (Chg.of_below hb2 fun k => k = g) fun b h => .inl h)
    have HSPL := Lib.hid hsp
    have HRL := Lib.hid hrl
    have hwS : w.heap.size ≤ w2.heap.size := Nat.le_trans hz1 hb2.size
    clear hbss hsp hrl hb2 HP1 HC1 HSP hxl
    go_wp2_with fail
    go_loopw [7, 28] (fun o i wr => ∃ k : Nat, k ≤ l.length ∧ i = .int .i64 k ∧ AllI 148 33 tSig w w2 X E g sent rows bad l o k wr) (fun _ i _ => l.length - (intOf i).toNat)
    case atStart => exact ⟨0, Nat.zero_le _, rfl, AllI.start HP2.out⟩
    case round =>
      obtain ⟨k, hk, rfl, hI⟩ := hrel
      by_cases hlt : k < l.length
      · obtain ⟨css, bk, hown, hob, hlo, hpt, hch⟩ := hI
        obtain ⟨ba, oa, ua, rfl, hca, hua, _, hSb⟩ := (HROWS.out.chg hch (fun b hb h => hb h)).at_ hlt
        have htk : l.take (k + 1) = l.take k ++ [l[k]] := List.take_succ_eq_append_getElem hlt
        have hyl := HRL.out l[k] (List.getElem_mem hlt)
        obtain ⟨y, hy⟩ : ∃ y, y = l[k] := ⟨_, rfl⟩
        rw [← hy] at hua htk hyl
        have HR := Lib.hid (readSig_any wr hua hyl hpt.1)
        obtain ⟨Ay, cy, rfl⟩ := hua.form
        obtain ⟨Ao, co, rfl⟩ := hown.form
        have HOWN := Lib.hid hown
        have HOB := Lib.hid hob
        have HLO := Lib.hid hlo
        have HPT := Lib.hid hpt
        have HCH := Lib.hid hch
        have HTK := Lib.hid htk
        have H63 := Lib.hid (show k + 1 ≤ maxLen ∧ (k + 1) * 40 ≤ 140737488355328 from ⟨by simp only [maxLen]; omega, by omega⟩)
        have hzr := hch.size
        clear hown hob hlo hpt hch htk hy hua hyl
        go_wp2_with fail
        refine HR.out.mono ?_
        rintro e w3 hro
        obtain ⟨C, err, bd, rfl, h1, hl, hb3, he, ho⟩ := hro.agg (fun _ => rfl)
        have hl : C.length = 33 := hl
        have HL := Lib.hid hl
        have HI := Lib.hid (show (Tryz.prog.info? 148).map (·.size) = some C.length from by rw [hl]; exact size_allSig_any)
        have HI2 := Lib.hid (show (Tryz.prog.info? 148).map (fun i => (i.zero.map (fun z => z.cells.size), i.size)) = some (some C.length, C.length) from by rw [hl]; exact sizes_allSig_any)
        have H1 := Lib.hid h1
        clear h1 hl
        have HB3 := Lib.hid hb3
        have HP3 := Lib.hid (HPT.out.below hb3)
        have HO := Lib.hid (ho.or_ bk)
        clear hro hb3 ho HR
        rcases he with ⟨rfl, rfl⟩ | ⟨rfl, hcn⟩
        · skip
          go_wp2_with (first
            | (refine wpList_store_blk (cs0 := ([.int .i64 0] ++ List.replicate 32 (.int .u8 0) : List Value)) (cs := C) rfl 148 _ _ rfl (Blk.new w3 _ _) rfl rfl (by rw [HL.out]; rfl) HI.out H1.out ?_; intro w4 hb4 hc4; have HB4 := Lib.hid hb4; have HC4 := Lib.hid (show Chg (fun _ => False) w3 w4 from ((Chg.refl _ w3).alloc _).trans hc4 fun b h => .inr (Nat.le_of_eq h.symm)); clear hb4 hc4; have HO2 := Lib.hid (show ∀ ob, Own (w4.alloc ob) 148 33 (.slice Ao k co) k css.flatten from fun ob => own_keep HOWN.out fun b hb => (by have h1 := own_lt HOWN.out hb; have h2 := HOB.out b hb; have h3 := HB3.out.size; exact (Below.heap_alloc w4 ob b (ltle (ltle h1 h3) HC4.out.size)).trans ((HC4.out.block b (ltle h1 h3) id).trans (HB3.out.block b h1)))); have HS2 := Lib.hid (Cs.of_new w4 148 (size := 33) 1 (cs := C) (by rw [HL.out]) (by simp only [maxLen]; decide)))
            | (refine wpList_load_blk' rfl 148 _ rfl HB4.out rfl Tryz.underlying148 rfl HI.out ?_)
            | (refine wpList_row1 rfl 86 148 _ rfl Tryz.underlying86 (.agg C.toArray) rfl C rfl HI2.out (by rw [HL.out]; decide) (by rw [HL.out]; decide) ?_)
            | (at_builtin; refine wpList_app _ rfl _ _ _ rfl Tryz.underlying86 info_allSig_any rfl (by decide) (HO2.out _) rfl HS2.out rfl H1.out H63.out.1 H63.out.2 ?_; intro v6 w6 ho6 hc6 hnil6 hat6; clear hnil6; have HO6 := Lib.hid ho6; clear ho6; have HC6 := Lib.hid hc6; clear hc6; have HAT6 := Lib.hid hat6; clear hat6))
          refine ⟨⟨k + 1, by omega, by push_cast; rfl, AllI.step hgw hwS HOWN.out HOB.out HLO.out HCH.out HB3.out (by have := HO.out; rw [Bool.or_false] at this; exact this) (HC4.out.mono (M' := fun b => b = g) fun _ h => h.elim) (HP3.out.chg HC4.out fun b h => h.elim) HTK.out HO6.out HC6.out HAT6.out⟩, ?_⟩
          simp only [intOf]; omega
        · skip
          obtain ⟨gw, rfl⟩ := hcn.form
          have HCN := Lib.hid hcn; clear hcn
          go_wp2_with (refine wpList_store_blk (cs0 := ([.int .i64 0] ++ List.replicate 32 (.int .u8 0) : List Value)) (cs := C) rfl 148 _ _ rfl (Blk.new w3 _ _) rfl rfl (by rw [HL.out]; rfl) HI.out H1.out ?_; intro w4 hb4 hc4; have HB4 := Lib.hid hb4; have HC4 := Lib.hid (show Chg (fun _ => False) w3 w4 from ((Chg.refl _ w3).alloc _).trans hc4 fun b h => .inr (Nat.le_of_eq h.symm)); clear hb4 hc4)
          have hp4 := (HP3.out.chg HC4.out fun b h => h.elim)
          have hlx := hp4.2.2.2.1
          have hE4 := hp4.2.2.2.2.1
          have hz4 := HC4.out.size
          have hz3 := HB3.out.size
          have hal := (Below.refl w4.heap.size w4).alloc (Nat.le_refl _) (.cells #[.string ⟨#[105, 110, 32, 97, 32, 108, 105, 115, 116]⟩, .iface 129 (.pointer (some ⟨gw, 0, none⟩))] 133)
          have hcn4 := (HCN.out.to (w' := w4) (S' := fun b => ¬ (X b ∨ (Value.slice Ao k co).ownBlock = some b) ∧ E ≤ b) (fun b hb hlt => ⟨ltle hlt HC4.out.size, HC4.out.block b hlt id⟩) fun b hb hlt => ⟨fun h => h.elim (fun h => by have := HX1.out b h; omega) fun h => by have := own_lt HOWN.out h; omega, by omega⟩)
          have HBAD := Lib.hid (bad_any _ (hp4.below hal) (hcn4.freshMore _ ⟨fun h => absurd (hlx _ h) (Nat.lt_irrefl _), hE4⟩))
          clear hp4 hlx hal hcn4 hE4
          refine HBAD.out.mono ?_
          rintro e w5 ⟨rfl, hc5, hp5⟩
          have HP5 := Lib.hid hp5
          have HC35 := Lib.hid (show Chg (fun b => b = g) w3 w5 from ((HC4.out.mono (M' := fun b => b = g) fun _ h => h.elim).alloc _).trans hc5 fun b h => .inl h)
          have HB5 := Lib.hid ((HB4.out.alloc _).chg hc5 (fun h => by omega))
          clear hc5 hp5 HBAD
          have HO2 := Lib.hid (show ∀ ob, Own (w5.alloc ob) 148 33 (.slice Ao k co) k css.flatten from fun ob => own_keep HOWN.out fun b hb => (by have h1 := own_lt HOWN.out hb; have h2 := HOB.out b hb; have h3 := HB3.out.size; exact (Below.heap_alloc w5 ob b (ltle (ltle h1 h3) HC35.out.size)).trans ((HC35.out.block b (ltle h1 h3) (fun e => by omega)).trans (HB3.out.block b h1))))
          have HS2 := Lib.hid (Cs.of_new w5 148 (size := 33) 1 (cs := C) (by rw [HL.out]) (by simp only [maxLen]; decide))
          go_wp2_with (first
            | (refine wpList_load_blk' rfl 148 _ rfl HB5.out rfl Tryz.underlying148 rfl HI.out ?_)
            | (refine wpList_row1 rfl 86 148 _ rfl Tryz.underlying86 (.agg C.toArray) rfl C rfl HI2.out (by rw [HL.out]; decide) (by rw [HL.out]; decide) ?_)
            | (at_builtin; refine wpList_app _ rfl _ _ _ rfl Tryz.underlying86 info_allSig_any rfl (by decide) (HO2.out _) rfl HS2.out rfl H1.out H63.out.1 H63.out.2 ?_; intro v6 w6 ho6 hc6 hnil6 hat6; clear hnil6; have HO6 := Lib.hid ho6; clear ho6; have HC6 := Lib.hid hc6; clear hc6; have HAT6 := Lib.hid hat6; clear hat6))
          refine ⟨⟨k + 1, by omega, by push_cast; rfl, AllI.step hgw hwS HOWN.out HOB.out HLO.out HCH.out HB3.out (by have := HO.out; rw [Bool.or_true] at this; exact this) HC35.out HP5.out HTK.out HO6.out HC6.out HAT6.out⟩, ?_⟩
          simp only [intOf]; omega
      · have hk' : k = l.length := by omega
        subst hk'
        have HI := Lib.hid hI
        clear hI
        go_wp2_with fail
        go_ret
        exact HI.out.out rfl HSPL.out (fun _ => rfl) HGX.out HC2.out
end
section
open Go.RowKit Go.Maps
attribute [-simp] Tryz.isAgg37 Tryz.typeInfo37 Tryz.isAgg88 Tryz.typeInfo88
theorem info_readQC : (Tryz.prog.info? 88).map (fun i => (i.zero.map (fun z => z.cells.size))) = some (some 37) := by kernel_rfl
theorem size_readQC : (Tryz.prog.info? 88).map (·.size) = some 37 := by kernel_rfl
theorem places_readQC : ((match Tryz.prog.underlying 88 with | some (.struct fields) => fields.toList.mapM (fun f => (Tryz.prog.info? f.type).map fun i => (f.offset, i.size)) | _ => none)) = some [(0, 1), (1, 1), (2, 1), (3, 32), (35, 1), (36, 1)] := by kernel_rfl
set_option maxHeartbeats 4000000 in
set_option maxRecDepth 100000 in
theorem readQC_any (w : World) {S : Nat → Prop} {v sent : Value} {bs : List UInt8} (h : Bs w S v bs) (hlen : bs.length ≤ 262144) (hg : Gl w sent) :
    Calls Tryz.prog 109 #[v] w (ReadOut (.tup (.cons i64 (.cons i64 (.cons i64 (.cons .dig (.cons (.list i64) (.cons (.list tSig) .nil))))))) w sent bs) := by
  have hal := (Below.refl w.heap.size w).alloc (Nat.le_refl _) (.cells (([.int .i64 0, .int .i64 0, .int .i64 0] ++ List.replicate 32 (.int .u8 0) ++ [.slice none 0 0, .slice none 0 0] : List Value)).toArray 88)
  have HS := Lib.hid (psplit_any _ (h.below hal) (by omega) (hg.below hal) 6 (by omega) ⟨#[97, 32, 99, 101, 114, 116, 105, 102, 105, 99, 97, 116, 101]⟩)
  have HN := Lib.hid (Blk.new w 88 (([.int .i64 0, .int .i64 0, .int .i64 0] ++ List.replicate 32 (.int .u8 0) ++ [.slice none 0 0, .slice none 0 0] : List Value)).toArray)
  have HAL := Lib.hid hal
  obtain ⟨A, cap, rfl⟩ := h.form
  clear h hg hal
  go_enter Tryz.func109, Tryz.ntmps109
  go_wp2_with fail
  refine HS.out.mono ?_
  rintro e w1 ⟨g, rows, bad, rfl, hgw, hb1, hp, hn, hrl, hs⟩
  obtain ⟨r0, r1, r2, r3, r4, r5, rfl⟩ : ∃ r0 r1 r2 r3 r4 r5, rows = [r0, r1, r2, r3, r4, r5] := by
    match rows, hn with
    | [r0, r1, r2, r3, r4, r5], _ => exact ⟨r0, r1, r2, r3, r4, r5, rfl⟩
  have HK := Lib.hid (HN.out.below hb1 (by simp))
  have hgw' : w.heap.size + 1 ≤ g := by simpa using hgw
  have hz1 : w.heap.size + 1 ≤ w1.heap.size := by simpa using hb1.size
  have HB1 := Lib.hid (HAL.out.trans (hb1.mono (by simp)))
  have HSS := Lib.hid hs
  have HRL := Lib.hid (show ∀ x ∈ [r0, r1, r2, r3, r4, r5], x.length ≤ 262144 from fun x hx => Nat.le_trans (hrl x hx) hlen)
  have hE : Pt w1 (fun b => b = g) (w.heap.size + 1) g sent [r0, r1, r2, r3, r4, r5] bad := by simpa using hp
  clear HS HN HAL hgw hb1 hs hn hp hrl hlen
  have hp0 := hE
  clear hE
  go_wp2_with fail
  refine (int_any _ hp0).mono ?_
  rintro e w2 ht
  obtain ⟨y0, b0, rfl, h10, hc0, hp1, ho0⟩ := ht.one (fun _ => rfl) rfl
  have hgl0 := hp0.lt
  have hz2 := Nat.le_trans hz1 hc0.size
  have HO0 := Lib.hid ho0
  have HC0 := Lib.hid hc0
  have H10 := Lib.hid h10
  clear ht ho0 hc0 h10 hp0
  go_wp2_with fail
  refine (int_any _ hp1).mono ?_
  rintro e w3 ht
  obtain ⟨y1, b1, rfl, h11, hc1, hp2, ho1⟩ := ht.one (fun _ => rfl) rfl
  have hgl1 := hp1.lt
  have hz3 := Nat.le_trans hz2 hc1.size
  have HO1 := Lib.hid ho1
  have HC1 := Lib.hid hc1
  have H11 := Lib.hid h11
  clear ht ho1 hc1 h11 hp1
  go_wp2_with fail
  refine (n_any _ hp2).mono ?_
  rintro e w4 ht
  obtain ⟨y2, b2, rfl, h12, hc2, hp3, ho2⟩ := ht.one (fun _ => rfl) rfl
  have hgl2 := hp2.lt
  have hz4 := Nat.le_trans hz3 hc2.size
  have HO2 := Lib.hid ho2
  have HC2 := Lib.hid hc2
  have H12 := Lib.hid h12
  clear ht ho2 hc2 h12 hp2
  go_wp2_with fail
  refine (pdigest_any _ hp3).mono ?_
  rintro e w5 ht
  obtain ⟨c3, b3, rfl, h13, hl3, hc3, hp4, ho3⟩ := ht.agg (fun _ => rfl)
  have hl3 : c3.length = 32 := hl3
  have hgl3 := hp3.lt
  have hz5 := Nat.le_trans hz4 hc3.size
  have HO3 := Lib.hid ho3
  have HC3 := Lib.hid hc3
  have H13 := Lib.hid h13
  have HL3 := Lib.hid hl3
  clear hl3
  clear ht ho3 hc3 h13 hp3
  go_wp2_with fail
  refine (allInt_any _ hp4 (HRL.out _ (by simp))).mono ?_
  rintro e w6 ht
  obtain ⟨y4, b4, rfl, h14, hc4, hp5, ho4⟩ := ht.one (fun _ => rfl) rfl
  have hgl4 := hp4.lt
  have hz6 := Nat.le_trans hz5 hc4.size
  have HO4 := Lib.hid ho4
  have HC4 := Lib.hid hc4
  have H14 := Lib.hid h14
  clear ht ho4 hc4 h14 hp4
  go_wp2_with fail
  refine (allSig_any _ hp5 (HRL.out _ (by simp))).mono ?_
  rintro e w7 ht
  obtain ⟨y5, b5, rfl, h15, hc5, hp6, ho5⟩ := ht.one (fun _ => rfl) rfl
  have hgl5 := hp5.lt
  have hz7 := Nat.le_trans hz6 hc5.size
  have HO5 := Lib.hid ho5
  have HC5 := Lib.hid hc5
  have H15 := Lib.hid h15
  clear ht ho5 hc5 h15 hp5
  have hbu := run_struct (P := Tryz.prog) (vs := [y0, y1, y2, .agg c3.toArray, y4, y5]) (cs := [[y0], [y1], [y2], c3, [y4], [y5]]) info_readQC places_readQC ⟨cells_one H10.out, cells_one H11.out, cells_one H12.out, rfl, cells_one H14.out, cells_one H15.out, trivial⟩ (by simp [PlaceOk, HL3.out]) (by simp [HL3.out]) #[(0, y0), (1, y1), (2, y2), (3, .agg c3.toArray), (4, y4), (5, y5)] rfl
  have hone : ∀ v ∈ [[y0], [y1], [y2], c3, [y4], [y5]].flatten, v.oneCell' = true := by
    intro v hv
    simp only [List.flatten_cons, List.flatten_nil, List.mem_append, List.mem_singleton, List.not_mem_nil, or_false] at hv
    rcases hv with rfl | rfl | rfl | hv | rfl | rfl
    · exact H10.out
    · exact H11.out
    · exact H12.out
    · exact H13.out v hv
    · exact H14.out
    · exact H15.out
  have HOUT := Lib.hid (show Fs.Out (.cons i64 (.cons i64 (.cons i64 (.cons .dig (.cons (.list i64) (.cons (.list tSig) .nil)))))) w7 (Nw (w.heap.size + 1) w7) [r0, r1, r2, r3, r4, r5] [[y0], [y1], [y2], c3, [y4], [y5]].flatten bad b5 from by
    have := Fs.Out.step HO0.out (Fs.Out.step HO1.out (Fs.Out.step HO2.out (Fs.Out.step HO3.out (Fs.Out.step HO4.out (Fs.Out.step HO5.out (Fs.Out.nil_ w7 _ _) (Chg.refl _ _) hgl5 hz6) HC5.out hgl4 hz5) (HC4.out.trans HC5.out fun b h => .inl h) hgl3 hz4) ((HC3.out.trans HC4.out fun b h => .inl h).trans HC5.out fun b h => .inl h) hgl2 hz3) (((HC2.out.trans HC3.out fun b h => .inl h).trans HC4.out fun b h => .inl h).trans HC5.out fun b h => .inl h) hgl1 hz2) ((((HC1.out.trans HC2.out fun b h => .inl h).trans HC3.out fun b h => .inl h).trans HC4.out fun b h => .inl h).trans HC5.out fun b h => .inl h) hgl0 hz1
    simpa using this)
  have HCA := Lib.hid (show Chg (fun k => k = g) w1 w7 from (((((HC0.out.trans HC1.out fun b h => .inl h).trans HC2.out fun b h => .inl h).trans HC3.out fun b h => .inl h).trans HC4.out fun b h => .inl h).trans HC5.out fun b h => .inl h))
  have hcl : [[y0], [y1], [y2], c3, [y4], [y5]].flatten.length = 37 := by simp [HL3.out]
  obtain ⟨C, hC⟩ : ∃ C, C = [[y0], [y1], [y2], c3, [y4], [y5]].flatten := ⟨_, rfl⟩
  rw [← hC] at hbu hone hcl HOUT
  have HBU := Lib.hid hbu
  have HONE := Lib.hid hone
  have HCL := Lib.hid hcl
  have HI := Lib.hid (show (Tryz.prog.info? 88).map (·.size) = some C.length from by rw [hcl]; exact size_readQC)
  have HK2 := Lib.hid (HK.out.chg HCA.out (show ¬ w.heap.size = g from by omega))
  clear hbu hone hcl hC HK HO0 HC0 H10 HO1 HC1 H11 HO2 HC2 H12 HO3 HC3 H13 HO4 HC4 H14 HO5 HC5 H15 HL3
  have HP := Lib.hid hp6
  have hgX := hp6.lt
  clear hp6
  have hbu := HBU.out w7
  have HX := Lib.hid (HP.out.parts)
  go_wp2_with (first | (refine wpList_build_ rfl 88 _ rfl #[(0, y0), (1, y1), (2, y2), (3, .agg c3.toArray), (4, y4), (5, y5)] (by simp [Act.eval]) _ hbu ?_) | (refine wpList_store_blk (cs0 := ([.int .i64 0, .int .i64 0, .int .i64 0] ++ List.replicate 32 (.int .u8 0) ++ [.slice none 0 0, .slice none 0 0] : List Value)) (cs := C) rfl 88 _ _ rfl (Blk.new w7 _ _) rfl rfl (by rw [HCL.out]; rfl) HI.out HONE.out ?_; intro wx hbx hcx; have HBX := Lib.hid hbx; have HCX := Lib.hid hcx; clear hbx hcx))
  obtain ⟨vy, ey, hblk, herr⟩ := HX.out
  have HCX' := Lib.hid (show Chg (fun _ => False) w7 wx from ((Chg.refl _ w7).alloc _).trans HCX.out fun b h => .inr (Nat.le_of_eq h.symm))
  have HGX := Lib.hid (hblk.chg HCX'.out id)
  have HKX := Lib.hid (HK2.out.chg HCX'.out id)
  have HE := Lib.hid herr
  clear hbu hblk herr HX HBU
  refine wp_region_hoist [0, 1, 2, 3, 4] [5] [6] (fun w' => Blk w' w7.heap.size 88 C.toArray ∧ Blk w' g 144 #[vy, ey])
    (by kernel_rfl) (by kernel_rfl) (by kernel_rfl) (by kernel_rfl) (by kernel_rfl) (by kernel_rfl) ⟨HBX.out.drew, HGX.out.drew⟩ ?_
  (refine HoistK.load (by rfl) (by kernel_rfl) 88 _ rfl w7.heap.size 0 rfl C _ (fun w' hw => hw.1.range) Tryz.underlying88 rfl HI.out ?_; simp only [Act.put, setIfInBounds_toArray, getElem_toArray, getElem_cons_zero, set_cons_succ, set_cons_zero])
  iterate 3 (refine HoistK.yes (by rfl) (by kernel_rfl) ⟨?_, fun w' hSw => ?_, ?_⟩; rotate_left; (· go_simp; try with_reducible rfl); simp only [Act.put, setIfInBounds_toArray, getElem_toArray, getElem_cons_succ, getElem_cons_zero, set_cons_succ, set_cons_zero])
  (refine HoistK.yes (by rfl) (by kernel_rfl) ⟨?_, fun w' hSw => ?_, ?_⟩; rotate_left; (· have hcc := hSw.2.cell; go_simp; try with_reducible rfl); simp only [Act.put, setIfInBounds_toArray, getElem_toArray, getElem_cons_succ, getElem_cons_zero, set_cons_succ, set_cons_zero])
  refine HoistK.nil_ ?_
  simp only [opsAt, filterMap_cons, filterMap_nil, getElem?_toArray, getElem?_cons_succ, getElem?_cons_zero]
  refine Effects.cons_ fun _ hQ1 => ?_
  go_wp2_with (refine wpList_store_blk (cs0 := ([.int .i64 0, .int .i64 0, .int .i64 0] ++ List.replicate 32 (.int .u8 0) ++ [.slice none 0 0, .slice none 0 0] : List Value)) (cs := C) rfl 88 _ _ rfl HKX.out.drew rfl rfl (by rw [HCL.out]; rfl) HI.out HONE.out ?_; intro wy hby hcy; have HBY := Lib.hid hby; have HCY := Lib.hid hcy; clear hby hcy)
  refine hQ1 _ _ ⟨HBX.out.drew.chg HCY.out (fun h => by omega), HGX.out.drew.chg HCY.out (fun h => by omega)⟩ (Effects.nil_ fun _ hQ2 => ?_)
  go_wp2
  have hld := run_loadVar_mid (P := Tryz.prog) wy w.heap.size 0 88 C _ HBY.out.range Tryz.underlying88 rfl HI.out
  refine bodyPost_ret (v := .tuple #[.agg C.toArray, ey]) (by simp [results, Tryz.results109, asAddr, hld]) rfl ?_
  have hcf : Chg (fun b => b = w.heap.size) w7 wy := ((HCX'.out.mono fun _ h => h.elim).drew).trans HCY.out fun b h => .inl h
  exact ReadOut.mk (n := 6) HOUT.out HSS.out rfl HE.out (HB1.out.trans (HCA.out.below HB1.out.size fun b h => by omega)) hcf
end
section
open Go.RowKit Go.Maps
attribute [-simp] Tryz.isAgg37 Tryz.typeInfo37 Tryz.isAgg88 Tryz.typeInfo88
theorem size_oneQC_any : (Tryz.prog.info? 88).map (·.size) = some 37 := by kernel_rfl
set_option maxHeartbeats 4000000 in
set_option maxRecDepth 100000 in
theorem oneQC_any (w : World) {X : Nat → Prop} {E g : Nat} {sent : Value} {x : List UInt8} {rows : List (List UInt8)} {bad : Bool} (h : Pt w X E g sent (x :: rows) bad) (hxl : x.length ≤ 262144) :
    Calls Tryz.prog 108 #[.pointer (some ⟨g, 0, none⟩), .func (Fn.func 109) #[] #[]] w (Took tQC w X E g sent x rows bad) := by
  have hgx := h.2.2.1
  have hgw := h.lt
  have hEw := h.2.2.2.2.1
  have hp0 := h.more ((Below.refl w.heap.size w).alloc (Nat.le_refl _) (.cells (([.int .i64 0, .int .i64 0, .int .i64 0] ++ List.replicate 32 (.int .u8 0) ++ [.slice none 0 0, .slice none 0 0] : List Value)).toArray 88)) (fun b => b = w.heap.size) (fun b hb => ⟨Nat.le_of_eq hb.symm, by rw [hb]; simp⟩)
  have H := Lib.hid (next_any _ hp0)
  have HN := Lib.hid (Blk.new w 88 (([.int .i64 0, .int .i64 0, .int .i64 0] ++ List.replicate 32 (.int .u8 0) ++ [.slice none 0 0, .slice none 0 0] : List Value)).toArray)
  have HGX := Lib.hid hgx
  have HX1 := Lib.hid (show ∀ b, X b → b < w.heap.size from h.2.2.2.1)
  clear h hp0 hgx
  go_enter Tryz.func108, Tryz.ntmps108
  go_wp2_with fail
  refine H.out.mono ?_
  rintro e w1 ⟨v1, rfl, hb1, hc1, hp1⟩
  have HK := Lib.hid (HN.out.chg hc1 (fun h => by omega))
  have hz1 : w.heap.size + 1 ≤ w1.heap.size := by simpa using hc1.size
  have HR := Lib.hid (readQC_any w1 hb1 hxl hp1.1)
  have HC1 := Lib.hid (show Chg (fun k => k = g) w w1 from ((Chg.refl (fun k => k = g) w).alloc _).trans hc1 fun b h => .inl h)
  have HP1 := Lib.hid hp1
  obtain ⟨A1, c1, rfl⟩ := hb1.form
  clear hb1 hp1 hc1 H HN hxl
  go_wp2_with fail
  refine HR.out.mono ?_
  rintro e w2 hro
  obtain ⟨C, err, bd, rfl, h1, hl, hb2, he, ho⟩ := hro.agg (fun _ => rfl)
  have hl : C.length = 37 := hl
  have hz2 := Nat.le_trans hz1 hb2.size
  have HI := Lib.hid (show (Tryz.prog.info? 88).map (·.size) = some C.length from by rw [hl]; exact size_oneQC_any)
  have H1 := Lib.hid h1
  have HL := Lib.hid hl
  have HP2 := Lib.hid (HP1.out.below hb2)
  have HK2 := Lib.hid (HK.out.below hb2 HK.out.lt)
  have HC2 := Lib.hid (HC1.out.trans (Chg.of_below hb2 fun k => k = g) fun b h => .inl h)
  have HO := Lib.hid (ho.or_ bad)
  clear hro h1 hl hb2 ho HR HP1 HK HC1
  rcases he with ⟨rfl, rfl⟩ | ⟨rfl, hch⟩
  · go_wp2_with (first
      | (refine wpList_store_blk (cs0 := ([.int .i64 0, .int .i64 0, .int .i64 0] ++ List.replicate 32 (.int .u8 0) ++ [.slice none 0 0, .slice none 0 0] : List Value)) (cs := C) rfl 88 _ _ rfl (Blk.new w2 _ _) rfl rfl (by rw [HL.out]; rfl) HI.out H1.out ?_; intro w3 hb3 hc3; have HB3 := Lib.hid hb3
         have HC3 := Lib.hid (show Chg (fun _ => False) w2 w3 from ((Chg.refl _ w2).alloc _).trans hc3 fun b h => .inr (Nat.le_of_eq h.symm)); clear hb3 hc3
         have HK3 := Lib.hid (HK2.out.chg HC3.out id))
      | (refine wpList_load_blk' rfl 88 _ rfl HB3.out rfl Tryz.underlying88 rfl HI.out ?_)
      | (refine wpList_store_blk (cs0 := ([.int .i64 0, .int .i64 0, .int .i64 0] ++ List.replicate 32 (.int .u8 0) ++ [.slice none 0 0, .slice none 0 0] : List Value)) (cs := C) rfl 88 _ _ rfl HK3.out rfl rfl (by rw [HL.out]; rfl) HI.out H1.out ?_; intro w9 hb9 hc9; have HB9 := Lib.hid hb9; have HC9 := Lib.hid hc9; clear hb9 hc9))
    have hld := run_loadVar_mid (P := Tryz.prog) w9 w.heap.size 0 88 C _ HB9.out.range Tryz.underlying88 rfl HI.out
    refine bodyPost_ret (v := .agg C.toArray) (by simp [results, Tryz.results108, asAddr, hld, Act.put]) rfl ?_
    have hp9 := (HP2.out.chg HC3.out fun b h => h.elim).chg HC9.out fun b h => ⟨.inr h, fun e => by omega⟩
    have ho9 := HO.out.nw (w' := w9) (k' := w.heap.size) (fun b hb hlt => ⟨ltle hlt (Nat.le_trans HC3.out.size HC9.out.size), (HC9.out.block b (ltle hlt HC3.out.size) (fun e => by omega)).trans (HC3.out.block b hlt id)⟩) (by omega)
    rw [Bool.or_false] at ho9
    exact ⟨C, bad, rfl, (HC2.out.trans (HC3.out.mono (M' := fun k => k = g) fun _ h => h.elim) fun b h => .inl h).trans HC9.out fun b h => .inr (Nat.le_of_eq h.symm), hp9.less (fun b h => .inl h) HGX.out, ho9⟩
  · obtain ⟨gw, rfl⟩ := hch.form
    have HCH := Lib.hid hch; clear hch
    go_wp2_with (first
      | (refine wpList_store_blk (cs0 := ([.int .i64 0, .int .i64 0, .int .i64 0] ++ List.replicate 32 (.int .u8 0) ++ [.slice none 0 0, .slice none 0 0] : List Value)) (cs := C) rfl 88 _ _ rfl (Blk.new w2 _ _) rfl rfl (by rw [HL.out]; rfl) HI.out H1.out ?_; intro w3 hb3 hc3; have HB3 := Lib.hid hb3
         have HC3 := Lib.hid (show Chg (fun _ => False) w2 w3 from ((Chg.refl _ w2).alloc _).trans hc3 fun b h => .inr (Nat.le_of_eq h.symm)); clear hb3 hc3
         have HK3 := Lib.hid (HK2.out.chg HC3.out id)))
    have hp3 := (HP2.out.chg HC3.out fun b h => h.elim)
    have hlx := hp3.2.2.2.1
    have hz3 := Nat.le_trans hz2 HC3.out.size
    have hal := (Below.refl w3.heap.size w3).alloc (Nat.le_refl _) (.cells #[.string ⟨#[119, 105, 116, 104, 105, 110]⟩, .iface 129 (.pointer (some ⟨gw, 0, none⟩))] 133)
    have hch3 := (HCH.out.to (w' := w3) (S' := fun b => ¬ (X b ∨ b = w.heap.size) ∧ E ≤ b) (fun b hb hlt => ⟨ltle hlt HC3.out.size, HC3.out.block b hlt id⟩) fun b hb hlt => ⟨fun h => h.elim (fun h => by have := HP2.out.2.2.2.1 b (.inl h); have := HX1.out b h; omega) fun h => by omega, by omega⟩)
    have HBAD := Lib.hid (bad_any _ (hp3.below hal) (hch3.freshMore _ ⟨fun h => absurd (hlx _ h) (Nat.lt_irrefl _), by omega⟩))
    clear hp3 hlx hal hch3
    refine HBAD.out.mono ?_
    rintro e w4 ⟨rfl, hc4, hp4⟩
    have HC4 := Lib.hid hc4
    have HP4 := Lib.hid hp4
    have hgg : ¬ w.heap.size = g := by omega
    have HK4 := Lib.hid ((HK3.out.alloc _).chg hc4 (fun h => hgg h))
    have HB4 := Lib.hid ((HB3.out.alloc _).chg hc4 (fun h => by omega))
    clear hc4 hp4 HBAD
    go_wp2_with (first
      | (refine wpList_load_blk' rfl 88 _ rfl HB4.out rfl Tryz.underlying88 rfl HI.out ?_)
      | (refine wpList_store_blk (cs0 := ([.int .i64 0, .int .i64 0, .int .i64 0] ++ List.replicate 32 (.int .u8 0) ++ [.slice none 0 0, .slice none 0 0] : List Value)) (cs := C) rfl 88 _ _ rfl HK4.out rfl rfl (by rw [HL.out]; rfl) HI.out H1.out ?_; intro w9 hb9 hc9; have HB9 := Lib.hid hb9; have HC9 := Lib.hid hc9; clear hb9 hc9))
    have hld := run_loadVar_mid (P := Tryz.prog) w9 w.heap.size 0 88 C _ HB9.out.range Tryz.underlying88 rfl HI.out
    refine bodyPost_ret (v := .agg C.toArray) (by simp [results, Tryz.results108, asAddr, hld, Act.put]) rfl ?_
    have hc34 : Chg (fun k => k = g) w2 w4 := ((HC3.out.mono (M' := fun k => k = g) fun _ h => h.elim).alloc _).trans HC4.out fun b h => .inl h
    have hp9 := HP4.out.chg HC9.out fun b h => ⟨.inr h, fun e => by omega⟩
    have ho9 := HO.out.nw (w' := w9) (k' := w.heap.size) (fun b hb hlt => ⟨ltle hlt (Nat.le_trans hc34.size HC9.out.size), (HC9.out.block b (ltle hlt hc34.size) (fun e => by omega)).trans (hc34.block b hlt (fun e => by omega))⟩) (by omega)
    rw [Bool.or_true] at ho9
    exact ⟨C, true, rfl, (HC2.out.trans hc34 fun b h => .inl h).trans HC9.out fun b h => .inr (Nat.le_of_eq h.symm), hp9.less (fun b h => .inl h) HGX.out, ho9⟩
end
section
open Go.RowKit Go.Maps
attribute [-simp] Tryz.isAgg37 Tryz.typeInfo37 Tryz.isAgg90 Tryz.typeInfo90
theorem info_readCommit : (Tryz.prog.info? 90).map (fun i => (i.zero.map (fun z => z.cells.size))) = some (some 38) := by kernel_rfl
theorem size_readCommit : (Tryz.prog.info? 90).map (·.size) = some 38 := by kernel_rfl
theorem places_readCommit : ((match Tryz.prog.underlying 90 with | some (.struct fields) => fields.toList.mapM (fun f => (Tryz.prog.info? f.type).map fun i => (f.offset, i.size)) | _ => none)) = some [(0, 1), (1, 37)] := by kernel_rfl
set_option maxHeartbeats 4000000 in
set_option maxRecDepth 100000 in
theorem readCommit_any (w : World) {S : Nat → Prop} {v sent : Value} {bs : List UInt8} (h : Bs w S v bs) (hlen : bs.length ≤ 262144) (hg : Gl w sent) :
    Calls Tryz.prog 96 #[v] w (ReadOut (.tup (.cons (.list tHeader) (.cons tQC .nil))) w sent bs) := by
  have hal := (Below.refl w.heap.size w).alloc (Nat.le_refl _) (.cells (([.slice none 0 0] ++ ([.int .i64 0, .int .i64 0, .int .i64 0] ++ List.replicate 32 (.int .u8 0) ++ [.slice none 0 0, .slice none 0 0]) : List Value)).toArray 90)
  have HS := Lib.hid (psplit_any _ (h.below hal) (by omega) (hg.below hal) 2 (by omega) ⟨#[97, 32, 99, 111, 109, 109, 105, 116]⟩)
  have HN := Lib.hid (Blk.new w 90 (([.slice none 0 0] ++ ([.int .i64 0, .int .i64 0, .int .i64 0] ++ List.replicate 32 (.int .u8 0) ++ [.slice none 0 0, .slice none 0 0]) : List Value)).toArray)
  have HAL := Lib.hid hal
  obtain ⟨A, cap, rfl⟩ := h.form
  clear h hg hal
  go_enter Tryz.func96, Tryz.ntmps96
  go_wp2_with fail
  refine HS.out.mono ?_
  rintro e w1 ⟨g, rows, bad, rfl, hgw, hb1, hp, hn, hrl, hs⟩
  obtain ⟨r0, r1, rfl⟩ : ∃ r0 r1, rows = [r0, r1] := by
    match rows, hn with
    | [r0, r1], _ => exact ⟨r0, r1, rfl⟩
  have HK := Lib.hid (HN.out.below hb1 (by simp))
  have hgw' : w.heap.size + 1 ≤ g := by simpa using hgw
  have hz1 : w.heap.size + 1 ≤ w1.heap.size := by simpa using hb1.size
  have HB1 := Lib.hid (HAL.out.trans (hb1.mono (by simp)))
  have HSS := Lib.hid hs
  have HRL := Lib.hid (show ∀ x ∈ [r0, r1], x.length ≤ 262144 from fun x hx => Nat.le_trans (hrl x hx) hlen)
  have hE : Pt w1 (fun b => b = g) (w.heap.size + 1) g sent [r0, r1] bad := by simpa using hp
  clear HS HN HAL hgw hb1 hs hn hp hrl hlen
  have hp0 := hE
  clear hE
  go_wp2_with fail
  refine (allHeader_any _ hp0 (HRL.out _ (by simp))).mono ?_
  rintro e w2 ht
  obtain ⟨y0, b0, rfl, h10, hc0, hp1, ho0⟩ := ht.one (fun _ => rfl) rfl
  have hgl0 := hp0.lt
  have hz2 := Nat.le_trans hz1 hc0.size
  have HO0 := Lib.hid ho0
  have HC0 := Lib.hid hc0
  have H10 := Lib.hid h10
  clear ht ho0 hc0 h10 hp0
  go_wp2_with fail
  refine (oneQC_any _ hp1 (HRL.out _ (by simp))).mono ?_
  rintro e w3 ht
  obtain ⟨c1, b1, rfl, h11, hl1, hc1, hp2, ho1⟩ := ht.agg (fun _ => rfl)
  have hl1 : c1.length = 37 := hl1
  have hgl1 := hp1.lt
  have hz3 := Nat.le_trans hz2 hc1.size
  have HO1 := Lib.hid ho1
  have HC1 := Lib.hid hc1
  have H11 := Lib.hid h11
  have HL1 := Lib.hid hl1
  clear hl1
  clear ht ho1 hc1 h11 hp1
  have hbu := run_struct (P := Tryz.prog) (vs := [y0, .agg c1.toArray]) (cs := [[y0], c1]) info_readCommit places_readCommit ⟨cells_one H10.out, rfl, trivial⟩ (by simp [PlaceOk, HL1.out]) (by simp [HL1.out]) #[(0, y0), (1, .agg c1.toArray)] rfl
  have hone : ∀ v ∈ [[y0], c1].flatten, v.oneCell' = true := by
    intro v hv
    simp only [List.flatten_cons, List.flatten_nil, List.mem_append, List.mem_singleton, List.not_mem_nil, or_false] at hv
    rcases hv with rfl | hv
    · exact H10.out
    · exact H11.out v hv
  have HOUT := Lib.hid (show Fs.Out (.cons (.list tHeader) (.cons tQC .nil)) w3 (Nw (w.heap.size + 1) w3) [r0, r1] [[y0], c1].flatten bad b1 from by
    have := Fs.Out.step HO0.out (Fs.Out.step HO1.out (Fs.Out.nil_ w3 _ _) (Chg.refl _ _) hgl1 hz2) HC1.out hgl0 hz1
    simpa using this)
  have HCA := Lib.hid (show Chg (fun k => k = g) w1 w3 from (HC0.out.trans HC1.out fun b h => .inl h))
  have hcl : [[y0], c1].flatten.length = 38 := by simp [HL1.out]
  obtain ⟨C, hC⟩ : ∃ C, C = [[y0], c1].flatten := ⟨_, rfl⟩
  rw [← hC] at hbu hone hcl HOUT
  have HBU := Lib.hid hbu
  have HONE := Lib.hid hone
  have HCL := Lib.hid hcl
  have HI := Lib.hid (show (Tryz.prog.info? 90).map (·.size) = some C.length from by rw [hcl]; exact size_readCommit)
  have HK2 := Lib.hid (HK.out.chg HCA.out (show ¬ w.heap.size = g from by omega))
  clear hbu hone hcl hC HK HO0 HC0 H10 HO1 HC1 H11 HL1
  have HP := Lib.hid hp2
  have hgX := hp2.lt
  clear hp2
  have hbu := HBU.out w3
  have HX := Lib.hid (HP.out.parts)
  go_wp2_with (first | (refine wpList_build_ rfl 90 _ rfl #[(0, y0), (1, .agg c1.toArray)] (by simp [Act.eval]) _ hbu ?_) | (refine wpList_store_blk (cs0 := ([.slice none 0 0] ++ ([.int .i64 0, .int .i64 0, .int .i64 0] ++ List.replicate 32 (.int .u8 0) ++ [.slice none 0 0, .slice none 0 0]) : List Value)) (cs := C) rfl 90 _ _ rfl (Blk.new w3 _ _) rfl rfl (by rw [HCL.out]; rfl) HI.out HONE.out ?_; intro wx hbx hcx; have HBX := Lib.hid hbx; have HCX := Lib.hid hcx; clear hbx hcx))
  obtain ⟨vy, ey, hblk, herr⟩ := HX.out
  have HCX' := Lib.hid (show Chg (fun _ => False) w3 wx from ((Chg.refl _ w3).alloc _).trans HCX.out fun b h => .inr (Nat.le_of_eq h.symm))
  have HGX := Lib.hid (hblk.chg HCX'.out id)
  have HKX := Lib.hid (HK2.out.chg HCX'.out id)
  have HE := Lib.hid herr
  clear hbu hblk herr HX HBU
  refine wp_region_hoist [0, 1, 2, 3, 4] [5] [6] (fun w' => Blk w' w3.heap.size 90 C.toArray ∧ Blk w' g 144 #[vy, ey])
    (by kernel_rfl) (by kernel_rfl) (by kernel_rfl) (by kernel_rfl) (by kernel_rfl) (by kernel_rfl) ⟨HBX.out.drew, HGX.out.drew⟩ ?_
  (refine HoistK.load (by rfl) (by kernel_rfl) 90 _ rfl w3.heap.size 0 rfl C _ (fun w' hw => hw.1.range) Tryz.underlying90 rfl HI.out ?_; simp only [Act.put, setIfInBounds_toArray, getElem_toArray, getElem_cons_zero, set_cons_succ, set_cons_zero])
  iterate 3 (refine HoistK.yes (by rfl) (by kernel_rfl) ⟨?_, fun w' hSw => ?_, ?_⟩; rotate_left; (· go_simp; try with_reducible rfl); simp only [Act.put, setIfInBounds_toArray, getElem_toArray, getElem_cons_succ, getElem_cons_zero, set_cons_succ, set_cons_zero])
  (refine HoistK.yes (by rfl) (by kernel_rfl) ⟨?_, fun w' hSw => ?_, ?_⟩; rotate_left; (· have hcc := hSw.2.cell; go_simp; try with_reducible rfl); simp only [Act.put, setIfInBounds_toArray, getElem_toArray, getElem_cons_succ, getElem_cons_zero, set_cons_succ, set_cons_zero])
  refine HoistK.nil_ ?_
  simp only [opsAt, filterMap_cons, filterMap_nil, getElem?_toArray, getElem?_cons_succ, getElem?_cons_zero]
  refine Effects.cons_ fun _ hQ1 => ?_
  go_wp2_with (refine wpList_store_blk (cs0 := ([.slice none 0 0] ++ ([.int .i64 0, .int .i64 0, .int .i64 0] ++ List.replicate 32 (.int .u8 0) ++ [.slice none 0 0, .slice none 0 0]) : List Value)) (cs := C) rfl 90 _ _ rfl HKX.out.drew rfl rfl (by rw [HCL.out]; rfl) HI.out HONE.out ?_; intro wy hby hcy; have HBY := Lib.hid hby; have HCY := Lib.hid hcy; clear hby hcy)
  refine hQ1 _ _ ⟨HBX.out.drew.chg HCY.out (fun h => by omega), HGX.out.drew.chg HCY.out (fun h => by omega)⟩ (Effects.nil_ fun _ hQ2 => ?_)
  go_wp2
  have hld := run_loadVar_mid (P := Tryz.prog) wy w.heap.size 0 90 C _ HBY.out.range Tryz.underlying90 rfl HI.out
  refine bodyPost_ret (v := .tuple #[.agg C.toArray, ey]) (by simp [results, Tryz.results96, asAddr, hld]) rfl ?_
  have hcf : Chg (fun b => b = w.heap.size) w3 wy := ((HCX'.out.mono fun _ h => h.elim).drew).trans HCY.out fun b h => .inl h
  exact ReadOut.mk (n := 2) HOUT.out HSS.out rfl HE.out (HB1.out.trans (HCA.out.below HB1.out.size fun b h => by omega)) hcf
end
section
open Go.RowKit Go.Maps
attribute [-simp] Tryz.isAgg37 Tryz.typeInfo37 Tryz.isAgg90 Tryz.typeInfo90
theorem size_oneCommit_any : (Tryz.prog.info? 90).map (·.size) = some 38 := by kernel_rfl
set_option maxHeartbeats 4000000 in
set_option maxRecDepth 100000 in
theorem oneCommit_any (w : World) {X : Nat → Prop} {E g : Nat} {sent : Value} {x : List UInt8} {rows : List (List UInt8)} {bad : Bool} (h : Pt w X E g sent (x :: rows) bad) (hxl : x.length ≤ 262144) :
    Calls Tryz.prog 95 #[.pointer (some ⟨g, 0, none⟩), .func (Fn.func 96) #[] #[]] w (Took tCommit w X E g sent x rows bad) := by
  have hgx := h.2.2.1
  have hgw := h.lt
  have hEw := h.2.2.2.2.1
  have hp0 := h.more ((Below.refl w.heap.size w).alloc (Nat.le_refl _) (.cells (([.slice none 0 0] ++ ([.int .i64 0, .int .i64 0, .int .i64 0] ++ List.replicate 32 (.int .u8 0) ++ [.slice none 0 0, .slice none 0 0]) : List Value)).toArray 90)) (fun b => b = w.heap.size) (fun b hb => ⟨Nat.le_of_eq hb.symm, by rw [hb]; simp⟩)
  have H := Lib.hid (next_any _ hp0)
  have HN := Lib.hid (Blk.new w 90 (([.slice none 0 0] ++ ([.int .i64 0, .int .i64 0, .int .i64 0] ++ List.replicate 32 (.int .u8 0) ++ [.slice none 0 0, .slice none 0 0]) : List Value)).toArray)
  have HGX := Lib.hid hgx
  have HX1 := Lib.hid (show ∀ b, X b → b < w.heap.size from h.2.2.2.1)
  clear h hp0 hgx
  go_enter Tryz.func95, Tryz.ntmps95
  go_wp2_with fail
  refine H.out.mono ?_
  rintro e w1 ⟨v1, rfl, hb1, hc1, hp1⟩
  have HK := Lib.hid (HN.out.chg hc1 (fun h => by omega))
  have hz1 : w.heap.size + 1 ≤ w1.heap.size := by simpa using hc1.size
  have HR := Lib.hid (readCommit_any w1 hb1 hxl hp1.1)
  have HC1 := Lib.hid (show Chg (fun k => k = g) w w1 from ((Chg.refl (fun k => k = g) w).alloc _).trans hc1 fun b h => .inl h)
  have HP1 := Lib.hid hp1
  obtain ⟨A1, c1, rfl⟩ := hb1.form
  clear hb1 hp1 hc1 H HN hxl
  go_wp2_with fail
  refine HR.out.mono ?_
  rintro e w2 hro
  obtain ⟨C, err, bd, rfl, h1, hl, hb2, he, ho⟩ := hro.agg (fun _ => rfl)
  have hl : C.length = 38 := hl
  have hz2 := Nat.le_trans hz1 hb2.size
  have HI := Lib.hid (show (Tryz.prog.info? 90).map (·.size) = some C.length from by rw [hl]; exact size_oneCommit_any)
  have H1 := Lib.hid h1
  have HL := Lib.hid hl
  have HP2 := Lib.hid (HP1.out.below hb2)
  have HK2 := Lib.hid (HK.out.below hb2 HK.out.lt)
  have HC2 := Lib.hid (HC1.out.trans (Chg.of_below hb2 fun k => k = g) fun b h => .inl h)
  have HO := Lib.hid (ho.or_ bad)
  clear hro h1 hl hb2 ho HR HP1 HK HC1
  rcases he with ⟨rfl, rfl⟩ | ⟨rfl, hch⟩
  · go_wp2_with (first
      | (refine wpList_store_blk (cs0 := ([.slice none 0 0] ++ ([.int .i64 0, .int .i64 0, .int .i64 0] ++ List.replicate 32 (.int .u8 0) ++ [.slice none 0 0, .slice none 0 0]) : List Value)) (cs := C) rfl 90 _ _ rfl (Blk.new w2 _ _) rfl rfl (by rw [HL.out]; rfl) HI.out H1.out ?_; intro w3 hb3 hc3; have HB3 := Lib.hid hb3
         have HC3 := Lib.hid (show Chg (fun _ => False) w2 w3 from ((Chg.refl _ w2).alloc _).trans hc3 fun b h => .inr (Nat.le_of_eq h.symm)); clear hb3 hc3
         have HK3 := Lib.hid (HK2.out.chg HC3.out id))
      | (refine wpList_load_blk' rfl 90 _ rfl HB3.out rfl Tryz.underlying90 rfl HI.out ?_)
      | (refine wpList_store_blk (cs0 := ([.slice none 0 0] ++ ([.int .i64 0, .int .i64 0, .int .i64 0] ++ List.replicate 32 (.int .u8 0) ++ [.slice none 0 0, .slice none 0 0]) : List Value)) (cs := C) rfl 90 _ _ rfl HK3.out rfl rfl (by rw [HL.out]; rfl) HI.out H1.out ?_; intro w9 hb9 hc9; have HB9 := Lib.hid hb9; have HC9 := Lib.hid hc9; clear hb9 hc9))
    have hld := run_loadVar_mid (P := Tryz.prog) w9 w.heap.size 0 90 C _ HB9.out.range Tryz.underlying90 rfl HI.out
    refine bodyPost_ret (v := .agg C.toArray) (by simp [results, Tryz.results95, asAddr, hld, Act.put]) rfl ?_
    have hp9 := (HP2.out.chg HC3.out fun b h => h.elim).chg HC9.out fun b h => ⟨.inr h, fun e => by omega⟩
    have ho9 := HO.out.nw (w' := w9) (k' := w.heap.size) (fun b hb hlt => ⟨ltle hlt (Nat.le_trans HC3.out.size HC9.out.size), (HC9.out.block b (ltle hlt HC3.out.size) (fun e => by omega)).trans (HC3.out.block b hlt id)⟩) (by omega)
    rw [Bool.or_false] at ho9
    exact ⟨C, bad, rfl, (HC2.out.trans (HC3.out.mono (M' := fun k => k = g) fun _ h => h.elim) fun b h => .inl h).trans HC9.out fun b h => .inr (Nat.le_of_eq h.symm), hp9.less (fun b h => .inl h) HGX.out, ho9⟩
  · obtain ⟨gw, rfl⟩ := hch.form
    have HCH := Lib.hid hch; clear hch
    go_wp2_with (first
      | (refine wpList_store_blk (cs0 := ([.slice none 0 0] ++ ([.int .i64 0, .int .i64 0, .int .i64 0] ++ List.replicate 32 (.int .u8 0) ++ [.slice none 0 0, .slice none 0 0]) : List Value)) (cs := C) rfl 90 _ _ rfl (Blk.new w2 _ _) rfl rfl (by rw [HL.out]; rfl) HI.out H1.out ?_; intro w3 hb3 hc3; have HB3 := Lib.hid hb3
         have HC3 := Lib.hid (show Chg (fun _ => False) w2 w3 from ((Chg.refl _ w2).alloc _).trans hc3 fun b h => .inr (Nat.le_of_eq h.symm)); clear hb3 hc3
         have HK3 := Lib.hid (HK2.out.chg HC3.out id)))
    have hp3 := (HP2.out.chg HC3.out fun b h => h.elim)
    have hlx := hp3.2.2.2.1
    have hz3 := Nat.le_trans hz2 HC3.out.size
    have hal := (Below.refl w3.heap.size w3).alloc (Nat.le_refl _) (.cells #[.string ⟨#[119, 105, 116, 104, 105, 110]⟩, .iface 129 (.pointer (some ⟨gw, 0, none⟩))] 133)
    have hch3 := (HCH.out.to (w' := w3) (S' := fun b => ¬ (X b ∨ b = w.heap.size) ∧ E ≤ b) (fun b hb hlt => ⟨ltle hlt HC3.out.size, HC3.out.block b hlt id⟩) fun b hb hlt => ⟨fun h => h.elim (fun h => by have := HP2.out.2.2.2.1 b (.inl h); have := HX1.out b h; omega) fun h => by omega, by omega⟩)
    have HBAD := Lib.hid (bad_any _ (hp3.below hal) (hch3.freshMore _ ⟨fun h => absurd (hlx _ h) (Nat.lt_irrefl _), by omega⟩))
    clear hp3 hlx hal hch3
    refine HBAD.out.mono ?_
    rintro e w4 ⟨rfl, hc4, hp4⟩
    have HC4 := Lib.hid hc4
    have HP4 := Lib.hid hp4
    have hgg : ¬ w.heap.size = g := by omega
    have HK4 := Lib.hid ((HK3.out.alloc _).chg hc4 (fun h => hgg h))
    have HB4 := Lib.hid ((HB3.out.alloc _).chg hc4 (fun h => by omega))
    clear hc4 hp4 HBAD
    go_wp2_with (first
      | (refine wpList_load_blk' rfl 90 _ rfl HB4.out rfl Tryz.underlying90 rfl HI.out ?_)
      | (refine wpList_store_blk (cs0 := ([.slice none 0 0] ++ ([.int .i64 0, .int .i64 0, .int .i64 0] ++ List.replicate 32 (.int .u8 0) ++ [.slice none 0 0, .slice none 0 0]) : List Value)) (cs := C) rfl 90 _ _ rfl HK4.out rfl rfl (by rw [HL.out]; rfl) HI.out H1.out ?_; intro w9 hb9 hc9; have HB9 := Lib.hid hb9; have HC9 := Lib.hid hc9; clear hb9 hc9))
    have hld := run_loadVar_mid (P := Tryz.prog) w9 w.heap.size 0 90 C _ HB9.out.range Tryz.underlying90 rfl HI.out
    refine bodyPost_ret (v := .agg C.toArray) (by simp [results, Tryz.results95, asAddr, hld, Act.put]) rfl ?_
    have hc34 : Chg (fun k => k = g) w2 w4 := ((HC3.out.mono (M' := fun k => k = g) fun _ h => h.elim).alloc _).trans HC4.out fun b h => .inl h
    have hp9 := HP4.out.chg HC9.out fun b h => ⟨.inr h, fun e => by omega⟩
    have ho9 := HO.out.nw (w' := w9) (k' := w.heap.size) (fun b hb hlt => ⟨ltle hlt (Nat.le_trans hc34.size HC9.out.size), (HC9.out.block b (ltle hlt hc34.size) (fun e => by omega)).trans (hc34.block b hlt (fun e => by omega))⟩) (by omega)
    rw [Bool.or_true] at ho9
    exact ⟨C, true, rfl, (HC2.out.trans hc34 fun b h => .inl h).trans HC9.out fun b h => .inr (Nat.le_of_eq h.symm), hp9.less (fun b h => .inl h) HGX.out, ho9⟩
end
section
open Go.RowKit Go.Maps
attribute [-simp] Tryz.isAgg37 Tryz.typeInfo37 Tryz.isAgg92 Tryz.typeInfo92
theorem info_readFact : (Tryz.prog.info? 92).map (fun i => (i.zero.map (fun z => z.cells.size))) = some (some 73) := by kernel_rfl
theorem size_readFact : (Tryz.prog.info? 92).map (·.size) = some 73 := by kernel_rfl
theorem places_readFact : ((match Tryz.prog.underlying 92 with | some (.struct fields) => fields.toList.mapM (fun f => (Tryz.prog.info? f.type).map fun i => (f.offset, i.size)) | _ => none)) = some [(0, 38), (38, 32), (70, 1), (71, 1), (72, 1)] := by kernel_rfl
set_option maxHeartbeats 4000000 in
set_option maxRecDepth 100000 in
theorem readFact_any (w : World) {S : Nat → Prop} {v sent : Value} {bs : List UInt8} (h : Bs w S v bs) (hlen : bs.length ≤ 262144) (hg : Gl w sent) :
    Calls Tryz.prog 82 #[v] w (ReadOut (.tup (.cons tCommit (.cons .dig (.cons .byt (.cons .bool (.cons .byt .nil)))))) w sent bs) := by
  have hal := (Below.refl w.heap.size w).alloc (Nat.le_refl _) (.cells (([.slice none 0 0] ++ ([.int .i64 0, .int .i64 0, .int .i64 0] ++ List.replicate 32 (.int .u8 0) ++ [.slice none 0 0, .slice none 0 0]) ++ List.replicate 32 (.int .u8 0) ++ [.slice none 0 0, .bool false, .slice none 0 0] : List Value)).toArray 92)
  have HS := Lib.hid (psplit_any _ (h.below hal) (by omega) (hg.below hal) 5 (by omega) ⟨#[97, 32, 102, 97, 99, 116]⟩)
  have HN := Lib.hid (Blk.new w 92 (([.slice none 0 0] ++ ([.int .i64 0, .int .i64 0, .int .i64 0] ++ List.replicate 32 (.int .u8 0) ++ [.slice none 0 0, .slice none 0 0]) ++ List.replicate 32 (.int .u8 0) ++ [.slice none 0 0, .bool false, .slice none 0 0] : List Value)).toArray)
  have HAL := Lib.hid hal
  obtain ⟨A, cap, rfl⟩ := h.form
  clear h hg hal
  go_enter Tryz.func82, Tryz.ntmps82
  go_wp2_with fail
  refine HS.out.mono ?_
  rintro e w1 ⟨g, rows, bad, rfl, hgw, hb1, hp, hn, hrl, hs⟩
  obtain ⟨r0, r1, r2, r3, r4, rfl⟩ : ∃ r0 r1 r2 r3 r4, rows = [r0, r1, r2, r3, r4] := by
    match rows, hn with
    | [r0, r1, r2, r3, r4], _ => exact ⟨r0, r1, r2, r3, r4, rfl⟩
  have HK := Lib.hid (HN.out.below hb1 (by simp))
  have hgw' : w.heap.size + 1 ≤ g := by simpa using hgw
  have hz1 : w.heap.size + 1 ≤ w1.heap.size := by simpa using hb1.size
  have HB1 := Lib.hid (HAL.out.trans (hb1.mono (by simp)))
  have HSS := Lib.hid hs
  have HRL := Lib.hid (show ∀ x ∈ [r0, r1, r2, r3, r4], x.length ≤ 262144 from fun x hx => Nat.le_trans (hrl x hx) hlen)
  have hE : Pt w1 (fun b => b = g) (w.heap.size + 1) g sent [r0, r1, r2, r3, r4] bad := by simpa using hp
  clear HS HN HAL hgw hb1 hs hn hp hrl hlen
  have hp0 := hE
  clear hE
  go_wp2_with fail
  refine (oneCommit_any _ hp0 (HRL.out _ (by simp))).mono ?_
  rintro e w2 ht
  obtain ⟨c0, b0, rfl, h10, hl0, hc0, hp1, ho0⟩ := ht.agg (fun _ => rfl)
  have hl0 : c0.length = 38 := hl0
  have hgl0 := hp0.lt
  have hz2 := Nat.le_trans hz1 hc0.size
  have HO0 := Lib.hid ho0
  have HC0 := Lib.hid hc0
  have H10 := Lib.hid h10
  have HL0 := Lib.hid hl0
  clear hl0
  clear ht ho0 hc0 h10 hp0
  go_wp2_with fail
  refine (pdigest_any _ hp1).mono ?_
  rintro e w3 ht
  obtain ⟨c1, b1, rfl, h11, hl1, hc1, hp2, ho1⟩ := ht.agg (fun _ => rfl)
  have hl1 : c1.length = 32 := hl1
  have hgl1 := hp1.lt
  have hz3 := Nat.le_trans hz2 hc1.size
  have HO1 := Lib.hid ho1
  have HC1 := Lib.hid hc1
  have H11 := Lib.hid h11
  have HL1 := Lib.hid hl1
  clear hl1
  clear ht ho1 hc1 h11 hp1
  go_wp2_with fail
  refine (pbytes_any _ hp2).mono ?_
  rintro e w4 ht
  obtain ⟨y2, b2, rfl, h12, hc2, hp3, ho2⟩ := ht.one (fun _ => rfl) rfl
  have hgl2 := hp2.lt
  have hz4 := Nat.le_trans hz3 hc2.size
  have HO2 := Lib.hid ho2
  have HC2 := Lib.hid hc2
  have H12 := Lib.hid h12
  clear ht ho2 hc2 h12 hp2
  go_wp2_with fail
  refine (ptruth_any _ hp3).mono ?_
  rintro e w5 ht
  obtain ⟨y3, b3, rfl, h13, hc3, hp4, ho3⟩ := ht.one (fun _ => rfl) rfl
  have hgl3 := hp3.lt
  have hz5 := Nat.le_trans hz4 hc3.size
  have HO3 := Lib.hid ho3
  have HC3 := Lib.hid hc3
  have H13 := Lib.hid h13
  clear ht ho3 hc3 h13 hp3
  go_wp2_with fail
  refine (pbytes_any _ hp4).mono ?_
  rintro e w6 ht
  obtain ⟨y4, b4, rfl, h14, hc4, hp5, ho4⟩ := ht.one (fun _ => rfl) rfl
  have hgl4 := hp4.lt
  have hz6 := Nat.le_trans hz5 hc4.size
  have HO4 := Lib.hid ho4
  have HC4 := Lib.hid hc4
  have H14 := Lib.hid h14
  clear ht ho4 hc4 h14 hp4
  have hbu := run_struct (P := Tryz.prog) (vs := [.agg c0.toArray, .agg c1.toArray, y2, y3, y4]) (cs := [c0, c1, [y2], [y3], [y4]]) info_readFact places_readFact ⟨rfl, rfl, cells_one H12.out, cells_one H13.out, cells_one H14.out, trivial⟩ (by simp [PlaceOk, HL0.out, HL1.out]) (by simp [HL0.out, HL1.out]) #[(0, .agg c0.toArray), (1, .agg c1.toArray), (2, y2), (3, y3), (4, y4)] rfl
  have hone : ∀ v ∈ [c0, c1, [y2], [y3], [y4]].flatten, v.oneCell' = true := by
    intro v hv
    simp only [List.flatten_cons, List.flatten_nil, List.mem_append, List.mem_singleton, List.not_mem_nil, or_false] at hv
    rcases hv with hv | hv | rfl | rfl | rfl
    · exact H10.out v hv
    · exact H11.out v hv
    · exact H12.out
    · exact H13.out
    · exact H14.out
  have HOUT := Lib.hid (show Fs.Out (.cons tCommit (.cons .dig (.cons .byt (.cons .bool (.cons .byt .nil))))) w6 (Nw (w.heap.size + 1) w6) [r0, r1, r2, r3, r4] [c0, c1, [y2], [y3], [y4]].flatten bad b4 from by
    have := Fs.Out.step HO0.out (Fs.Out.step HO1.out (Fs.Out.step HO2.out (Fs.Out.step HO3.out (Fs.Out.step HO4.out (Fs.Out.nil_ w6 _ _) (Chg.refl _ _) hgl4 hz5) HC4.out hgl3 hz4) (HC3.out.trans HC4.out fun b h => .inl h) hgl2 hz3) ((HC2.out.trans HC3.out fun b h => .inl h).trans HC4.out fun b h => .inl h) hgl1 hz2) (((HC1.out.trans HC2.out fun b h => .inl h).trans HC3.out fun b h => .inl h).trans HC4.out fun b h => .inl h) hgl0 hz1
    simpa using this)
  have HCA := Lib.hid (show Chg (fun k => k = g) w1 w6 from ((((HC0.out.trans HC1.out fun b h => .inl h).trans HC2.out fun b h => .inl h).trans HC3.out fun b h => .inl h).trans HC4.out fun b h => .inl h))
  have hcl : [c0, c1, [y2], [y3], [y4]].flatten.length = 73 := by simp [HL0.out, HL1.out]
  obtain ⟨C, hC⟩ : ∃ C, C = [c0, c1, [y2], [y3], [y4]].flatten := ⟨_, rfl⟩
  rw [← hC] at hbu hone hcl HOUT
  have HBU := Lib.hid hbu
  have HONE := Lib.hid hone
  have HCL := Lib.hid hcl
  have HI := Lib.hid (show (Tryz.prog.info? 92).map (·.size) = some C.length from by rw [hcl]; exact size_readFact)
  have HK2 := Lib.hid (HK.out.chg HCA.out (show ¬ w.heap.size = g from by omega))
  clear hbu hone hcl hC HK HO0 HC0 H10 HO1 HC1 H11 HO2 HC2 H12 HO3 HC3 H13 HO4 HC4 H14 HL0 HL1
  have HP := Lib.hid hp5
  have hgX := hp5.lt
  clear hp5
  have hbu := HBU.out w6
  have HX := Lib.hid (HP.out.parts)
  go_wp2_with (first | (refine wpList_build_ rfl 92 _ rfl #[(0, .agg c0.toArray), (1, .agg c1.toArray), (2, y2), (3, y3), (4, y4)] (by simp [Act.eval]) _ hbu ?_) | (refine wpList_store_blk (cs0 := ([.slice none 0 0] ++ ([.int .i64 0, .int .i64 0, .int .i64 0] ++ List.replicate 32 (.int .u8 0) ++ [.slice none 0 0, .slice none 0 0]) ++ List.replicate 32 (.int .u8 0) ++ [.slice none 0 0, .bool false, .slice none 0 0] : List Value)) (cs := C) rfl 92 _ _ rfl (Blk.new w6 _ _) rfl rfl (by rw [HCL.out]; rfl) HI.out HONE.out ?_; intro wx hbx hcx; have HBX := Lib.hid hbx; have HCX := Lib.hid hcx; clear hbx hcx))
  obtain ⟨vy, ey, hblk, herr⟩ := HX.out
  have HCX' := Lib.hid (show Chg (fun _ => False) w6 wx from ((Chg.refl _ w6).alloc _).trans HCX.out fun b h => .inr (Nat.le_of_eq h.symm))
  have HGX := Lib.hid (hblk.chg HCX'.out id)
  have HKX := Lib.hid (HK2.out.chg HCX'.out id)
  have HE := Lib.hid herr
  clear hbu hblk herr HX HBU
  refine wp_region_hoist [0, 1, 2, 3, 4] [5] [6] (fun w' => Blk w' w6.heap.size 92 C.toArray ∧ Blk w' g 144 #[vy, ey])
    (by kernel_rfl) (by kernel_rfl) (by kernel_rfl) (by kernel_rfl) (by kernel_rfl) (by kernel_rfl) ⟨HBX.out.drew, HGX.out.drew⟩ ?_
  (refine HoistK.load (by rfl) (by kernel_rfl) 92 _ rfl w6.heap.size 0 rfl C _ (fun w' hw => hw.1.range) Tryz.underlying92 rfl HI.out ?_; simp only [Act.put, setIfInBounds_toArray, getElem_toArray, getElem_cons_zero, set_cons_succ, set_cons_zero])
  iterate 3 (refine HoistK.yes (by rfl) (by kernel_rfl) ⟨?_, fun w' hSw => ?_, ?_⟩; rotate_left; (· go_simp; try with_reducible rfl); simp only [Act.put, setIfInBounds_toArray, getElem_toArray, getElem_cons_succ, getElem_cons_zero, set_cons_succ, set_cons_zero])
  (refine HoistK.yes (by rfl) (by kernel_rfl) ⟨?_, fun w' hSw => ?_, ?_⟩; rotate_left; (· have hcc := hSw.2.cell; go_simp; try with_reducible rfl); simp only [Act.put, setIfInBounds_toArray, getElem_toArray, getElem_cons_succ, getElem_cons_zero, set_cons_succ, set_cons_zero])
  refine HoistK.nil_ ?_
  simp only [opsAt, filterMap_cons, filterMap_nil, getElem?_toArray, getElem?_cons_succ, getElem?_cons_zero]
  refine Effects.cons_ fun _ hQ1 => ?_
  go_wp2_with (refine wpList_store_blk (cs0 := ([.slice none 0 0] ++ ([.int .i64 0, .int .i64 0, .int .i64 0] ++ List.replicate 32 (.int .u8 0) ++ [.slice none 0 0, .slice none 0 0]) ++ List.replicate 32 (.int .u8 0) ++ [.slice none 0 0, .bool false, .slice none 0 0] : List Value)) (cs := C) rfl 92 _ _ rfl HKX.out.drew rfl rfl (by rw [HCL.out]; rfl) HI.out HONE.out ?_; intro wy hby hcy; have HBY := Lib.hid hby; have HCY := Lib.hid hcy; clear hby hcy)
  refine hQ1 _ _ ⟨HBX.out.drew.chg HCY.out (fun h => by omega), HGX.out.drew.chg HCY.out (fun h => by omega)⟩ (Effects.nil_ fun _ hQ2 => ?_)
  go_wp2
  have hld := run_loadVar_mid (P := Tryz.prog) wy w.heap.size 0 92 C _ HBY.out.range Tryz.underlying92 rfl HI.out
  refine bodyPost_ret (v := .tuple #[.agg C.toArray, ey]) (by simp [results, Tryz.results82, asAddr, hld]) rfl ?_
  have hcf : Chg (fun b => b = w.heap.size) w6 wy := ((HCX'.out.mono fun _ h => h.elim).drew).trans HCY.out fun b h => .inl h
  exact ReadOut.mk (n := 5) HOUT.out HSS.out rfl HE.out (HB1.out.trans (HCA.out.below HB1.out.size fun b h => by omega)) hcf
end
end Go.Proofs.YtkclkmjlodomkaaGreatDoor
