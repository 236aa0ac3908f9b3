/- awake: the calls whose answers the document fixes. -/
import Derived.Test.YthlebfhljmcedaaNetE
import Derived.Lib.SlBytesConst
namespace Go.Proofs.Ythlebfhljmcedaa
open Go.RowKit

theorem conv_bytes (w : World) (C : Array Value) (n c : Nat) : (convert 30 30 (.slice (some ⟨w.heap.size, 0, none⟩) n c)).run Try.prog (w.alloc (.cells C 5)) = .ok (.slice (some ⟨w.heap.size, 0, none⟩) n c) (w.alloc (.cells C 5 (C.size, C.size + 1))) :=
  Lib.run_convert_bytes_const (P := Try.prog) w 30 5 C n c Try.underlying30 Try.underlying5

set_option maxHeartbeats 2000000 in
theorem awake_any (w : World) : Calls Try.prog 8 #[] w fun e w' => e = .returned (.bool true) ∧ Below w.heap.size w w' := by
  have hcv := conv_bytes
  go_enter Try.func8, Try.ntmps8
  go_wp2_with fail
  refine (new_to 2 w).mono ?_
  rintro e w1 ⟨p, S1, B1, rfl, h1, u1⟩
  have hne : ∀ (W : World), (binOp .eql 24 (.pointer (some ⟨p, 0, none⟩)) (.pointer none)).run Try.prog W = .ok (.bool false) W := fun _ => by kernel_rfl
  go_wp2_with fail
  refine (send_to (N' := ⟨2, 1, [⟨1, 1, 2, [97]⟩]⟩) (i := 1) (e := 0) (h1.alloc _) rfl (Bs.of_new w1 _ [97] (by decide) _) (fun e => by have := h1.2.1 _ h1.1; omega) (by decide) (by decide) (by decide)).mono ?_
  rintro e w2 ⟨rfl, S2, B2, h2, u2⟩
  have v2 := (u1.alloc _).trans u2
  clear u1 u2
  go_wp2_with fail
  refine (send_to (N' := ⟨2, 2, [⟨1, 1, 2, [97]⟩, ⟨2, 2, 1, [98]⟩]⟩) (i := 2) (e := 0) (h2.alloc _) rfl (Bs.of_new w2 _ [98] (by decide) _) (fun e => by have := h2.2.1 _ h2.1; omega) (by decide) (by decide) (by decide)).mono ?_
  rintro e w3 ⟨rfl, S3, B3, h3, u3⟩
  have v3 := (v2.alloc _).trans u3
  clear v2 u3
  go_wp2_with fail
  refine (send_to (N' := ⟨2, 2, [⟨1, 1, 2, [97]⟩, ⟨2, 2, 1, [98]⟩]⟩) (i := 0) (e := 42) h3 rfl (Bs.nil_ _ (fun _ => False)) id (by decide) (by decide) (by decide)).mono ?_
  rintro e w4 ⟨rfl, S4, B4, h4, u4⟩
  have v4 := v3.trans u4
  clear v3 u4
  go_wp2_with fail
  refine (take_to (N' := ⟨2, 2, [⟨2, 2, 1, [98]⟩]⟩) (x := ⟨1, 1, 2, [97]⟩) (e := 0) h4 rfl (by decide)).mono ?_
  rintro e w5 ⟨bv5, rfl, b5, h5, u5⟩
  have v5 := v4.trans u5
  clear v4 u5
  obtain ⟨A5, c5, rfl⟩ := b5.form
  go_wp2_with fail
  have k5 := Blk.new w5 38 #[.int .i64 1, .int .i64 1, .int .i64 2, .slice A5 1 c5]
  have d5 := h5.lt
  refine (take_to (N' := ⟨2, 2, [⟨2, 2, 1, [98]⟩]⟩) (x := ⟨0, 0, 0, []⟩) (e := 32) (h5.alloc _) rfl (by decide)).mono ?_
  rintro e w6 ⟨bv6, rfl, b6, h6, u6⟩
  obtain ⟨A6, c6, rfl⟩ := b6.form
  go_wp2_with fail
  refine (double_to (N' := ⟨2, 3, [⟨2, 2, 1, [98]⟩, ⟨3, 2, 1, [98]⟩]⟩) (i := 3) (e := 0) (h6.alloc _) rfl (by decide) (by decide) (by decide)).mono ?_
  rintro e w7 ⟨rfl, S7, B7, h7, u7⟩
  have d7 : Upd S4 B4 (w5.alloc (.cells #[.int .i64 1, .int .i64 1, .int .i64 2, .slice A5 1 c5] 38)) w7 S7 B7 := (u6.alloc _).trans u7
  have v7 := (v5.alloc _).trans d7
  have k7 := (k5.chg d7.1 (fun hb => by have := d5 _ (.inl hb); omega))
  have hc7 := k7.cell
  have hs7 : (convert 30 9 (.slice A5 1 c5)).run Try.prog w7 = .ok (.string ⟨#[97]⟩) w7 :=
    run_str (bs := [97]) ((b5.alloc _).chg d7.1 (fun b hb => (h5.2.2.1 b hb).2)) Try.underlying30 Try.underlying5 Try.underlying9
  clear v5 u6 u7 h6 h5 d5
  go_wp2_with fail
  refine (len_any p _ _ _ _ h7).mono ?_
  rintro e w8 ⟨rfl, rfl⟩
  go_wp2_with fail
  refine (waiting_any p _ _ _ _ h7 (by decide)).mono ?_
  rintro e w9 ⟨v9, rfl, ⟨gs9, B9, o9, _, l9, _⟩, b9⟩
  have g9 : gs9.length = 2 := by have := congrArg List.length l9; simpa using this
  rw [g9] at o9
  obtain ⟨A9, c9, rfl⟩ := o9.form
  clear g9 l9
  go_wp2_with fail
  refine (drop_to (x := ⟨0, 0, 0, []⟩) (e := 32) (h7.below b9) rfl (by decide)).mono ?_
  rintro e w10 ⟨rfl, h10, u10⟩
  go_wp2_with fail
  go_ret
  exact ⟨rfl, ((v7.trans (Upd.of_below b9)).trans u10).new_below⟩

end Go.Proofs.Ythlebfhljmcedaa
