/- Wal: a number laid behind others (be.AppendUint64). -/
import Derived.Test.YtcgokafhkkmaoaaWkA
namespace Go.Proofs.Ytcgokafhkkmaoaa
open Go.RowKit Go.Maps

theorem beBytes_eq (v : Nat) : u8s (Lib.beBytes 8 v) = [.int .u8 (((v / 72057594037927936 % 256 : Nat)) : Int), .int .u8 (((v / 281474976710656 % 256 : Nat)) : Int), .int .u8 (((v / 1099511627776 % 256 : Nat)) : Int), .int .u8 (((v / 4294967296 % 256 : Nat)) : Int), .int .u8 (((v / 16777216 % 256 : Nat)) : Int), .int .u8 (((v / 65536 % 256 : Nat)) : Int), .int .u8 (((v / 256 % 256 : Nat)) : Int), .int .u8 (((v % 256 : Nat)) : Int)] := by
  simp only [Lib.beBytes, Lib.leBytes, u8s, List.reverse_cons, List.reverse_nil, List.nil_append, List.cons_append, List.map_cons, List.map_nil, Lib.toUInt8_mod, Nat.div_div_eq_div_mul]

theorem beBytes_int (m : Nat) (hm : m < 18446744073709551616) : u8s (Lib.beBytes 8 m) = [.int .u8 ((m : Int) / 72057594037927936), .int .u8 ((m : Int) / 281474976710656 % 256), .int .u8 ((m : Int) / 1099511627776 % 256), .int .u8 ((m : Int) / 4294967296 % 256), .int .u8 ((m : Int) / 16777216 % 256), .int .u8 ((m : Int) / 65536 % 256), .int .u8 ((m : Int) / 256 % 256), .int .u8 ((m : Int) % 256)] := by
  rw [beBytes_eq]
  simp only [List.cons.injEq, Value.int.injEq, true_and, and_true]
  refine ⟨by omega, by omega, by omega, by omega, by omega, by omega, by omega, by omega⟩
theorem info_u8 : (Try.prog.info? 5).map (fun i => (i.zero, i.size, i.bytes)) = some (some (.int .u8 0), 1, 1) := by kernel_rfl

set_option maxRecDepth 100000 in
theorem append64_any (w : World) (v : Value) (bs : List UInt8) (m : Nat) (hm : m < 18446744073709551616) (ho : Own w 5 1 v bs.length (u8s bs)) (hl : bs.length + 8 ≤ 140737488355328) :
    Calls Try.prog 29 #[v, .int .u64 m] w fun e w' => ∃ v', e = .returned v' ∧ Own w' 5 1 v' (bs ++ Lib.beBytes 8 m).length (u8s (bs ++ Lib.beBytes 8 m)) ∧
      Chg (fun b => v.ownBlock = some b) w w' ∧ (v'.ownBlock = v.ownBlock ∨ ∃ k, v'.ownBlock = some k ∧ w.heap.size ≤ k) := by
  have hbe := beBytes_int m hm
  have hL : (Lib.beBytes 8 m).length = 8 := Lib.beBytes_length 8 m
  have hsr : ∀ E : List Value, E.length = 8 → Cs (w.alloc (.cells E.toArray 5)) (fun b => b = w.heap.size) 1 (.slice (some ⟨w.heap.size, 0, none⟩) 8 8) 8 E := fun E h => Cs.of_new w 5 8 (cs := E) (size := 1) (by rw [h]) (by decide)
  have hna : ∀ o : Obj, Own (w.alloc o) 5 1 v bs.length (u8s bs) := fun o => own_keep ho fun k hk => Below.heap_alloc w _ k (own_lt ho hk)
  have h1 := u8s_one (Lib.beBytes 8 m)
  have hch : ∀ o : Obj, Chg (fun b => v.ownBlock = some b) w (w.alloc o) := fun o => (Chg.refl _ w).alloc _
  have hre : u8s bs ++ u8s (Lib.beBytes 8 m) = u8s (bs ++ Lib.beBytes 8 m) := by simp [u8s]
  have HRE := Lib.hid hre; clear hre
  have HCH := Lib.hid hch; clear hch
  have HSR := Lib.hid hsr; clear hsr
  have HNA := Lib.hid hna; clear hna
  have H1 := Lib.hid h1; clear h1
  have HBE := Lib.hid hbe; clear hbe
  have HL := Lib.hid hL; clear hL
  obtain ⟨A, cap, rfl⟩ := ho.form
  have HO := Lib.hid ho; clear ho
  go_enter Try.func29, Try.ntmps29
  go_wp2_with (at_builtin; refine wpList_app _ rfl _ _ _ rfl Try.underlying32 info_u8 rfl (by decide) (HNA.out _) rfl (HSR.out [_, _, _, _, _, _, _, _] rfl) rfl (by intro u hu; simp only [List.mem_cons, List.not_mem_nil, or_false] at hu; rcases hu with rfl | rfl | rfl | rfl | rfl | rfl | rfl | rfl <;> rfl) (by simp only [maxLen]; omega) (by omega) ?_; intro v2 w2 ho3 hg3 hnil3 hat3)
  rw [← HBE.out, HRE.out] at ho3
  go_ret
  refine ⟨v2, rfl, by rw [List.length_append, HL.out]; exact ho3, (HCH.out _).trans hg3 (fun b hb => .inl hb), hat3.imp id fun h => ⟨_, h, ?_⟩⟩
  simp

end Go.Proofs.Ytcgokafhkkmaoaa
