/- NetTrue: the walk. -/
import Derived.Test.YthlebfhljmcedaaNetG
namespace Go.Proofs.Ythlebfhljmcedaa
open Go.RowKit

/-- Did this step send that? -/
def hit (x : It) (g : GSt) : Bool := g.st.kind == 0 && (g.st.fr == x.fr && (g.st.rc == x.rc && g.st.body == x.body))
/-- What NetTrue keeps true: what waits was sent by one of the first j steps. -/
def TruI (gs : List GSt) (j : Nat) (N : NS) : Prop := 0 ≤ N.last ∧ N.last ≤ j ∧ N.l.length ≤ j ∧ ∀ x ∈ N.l, (gs.take j).any (hit x) = true
theorem any_more {gs : List GSt} {j : Nat} {f : GSt → Bool} (h : (gs.take j).any f = true) : (gs.take (j + 1)).any f = true := by
  rw [List.any_eq_true] at h ⊢
  obtain ⟨g, hg, hf⟩ := h
  refine ⟨g, ?_, hf⟩
  have : gs.take j = (gs.take (j + 1)).take j := by rw [List.take_take]; congr 1; omega
  rw [this] at hg
  exact List.mem_of_mem_take hg
theorem TruI.next {gs : List GSt} {j : Nat} {N : NS} (h : TruI gs j N) : TruI gs (j + 1) N := by
  obtain ⟨h1, h2, h3, h4⟩ := h
  exact ⟨h1, by omega, by omega, fun x hx => any_more (h4 x hx)⟩
theorem TruI.add {gs : List GSt} {j : Nat} {N : NS} (h : TruI gs j N) {x : It} (hx : (gs.take (j + 1)).any (hit x) = true) : TruI gs (j + 1) ⟨N.most, N.last + 1, N.l ++ [x]⟩ := by
  obtain ⟨h1, h2, h3, h4⟩ := h
  refine ⟨by simp; omega, by simp; omega, by simp; omega, fun y hy => ?_⟩
  rcases List.mem_append.1 hy with hy | hy
  · exact any_more (h4 y hy)
  · obtain rfl := List.mem_singleton.1 hy; exact hx
theorem TruI.take {gs : List GSt} {j : Nat} {N : NS} (h : TruI gs j N) (i : Nat) : TruI gs (j + 1) ⟨N.most, N.last, N.l.eraseIdx i⟩ := by
  obtain ⟨h1, h2, h3, h4⟩ := h
  have hl : (N.l.eraseIdx i).length ≤ N.l.length := List.length_eraseIdx_le N.l i
  exact ⟨h1, by simp; omega, by simp; omega, fun x hx => any_more (h4 x (List.mem_of_mem_eraseIdx hx))⟩
theorem hit_here {gs : List GSt} {j : Nat} (hlt : j < gs.length) (hk : gs[j].st.kind = 0) (n : Int) : (gs.take (j + 1)).any (hit ⟨n, gs[j].st.fr, gs[j].st.rc, gs[j].st.body⟩) = true := by
  rw [List.any_eq_true]
  exact ⟨gs[j], (by rw [List.take_succ_eq_append_getElem hlt]; exact List.mem_append_right _ (List.mem_singleton.2 rfl)), by simp [hit, hk]⟩
theorem hit_same (x : It) (n : Int) : hit ⟨n, x.fr, x.rc, x.body⟩ = hit x := rfl
theorem at_id {l : List It} {k : Int} {i : Nat} (h : at_ l k = some i) {x : It} (hx : l[i]? = some x) : x.id = k := by
  unfold at_ at h
  rw [List.findIdx?_eq_some_iff_getElem] at h
  obtain ⟨h1, h2, _⟩ := h
  rw [List.getElem?_eq_getElem h1] at hx
  injection hx with hx
  rw [← hx]; simpa using h2

/-- Did one of the first m steps send that? -/
def seen (gs : List GSt) (x : It) (m : Nat) : Bool := (gs.take m).any (hit x)
theorem seen_succ (gs : List GSt) (x : It) (m : Nat) (h : m < gs.length) : seen gs x (m + 1) = (seen gs x m || hit x gs[m]) := by
  unfold seen
  rw [List.take_succ_eq_append_getElem h, List.any_append]
  simp
theorem seen_more {gs : List GSt} {x : It} {j : Nat} (h : seen gs x j = true) : seen gs x (j + 1) = true := any_more h

set_option maxRecDepth 100000 in
set_option maxHeartbeats 4000000 in
theorem true_any (most : Int) (A : Option Addr) (cap : Nat) (gs : List GSt) (w : World) (h : Script w A cap gs) :
    Calls Try.prog 5 #[.int .i64 most, .slice A gs.length cap] w fun e w' => e = .returned (.bool true) ∧ Below w.heap.size w w' := by
  obtain ⟨hrow, hbod, hsz⟩ := h
  have hcap : (gs.length : Int) ≤ 140737488351232 := by omega
  go_enter Try.func5, Try.ntmps5
  go_wp2_with fail
  refine (awake_any w).mono ?_
  rintro e w1 ⟨rfl, hb1⟩
  go_wp2_with fail
  refine (new_to most w1).mono ?_
  rintro e w2 ⟨p, S, B, rfl, h2, u2⟩
  have v2 : Upd (New w) (New w) w w2 S B := u2.of_new hb1
  clear u2
  go_wp2_with fail
  go_loopw [6] (fun k wr => ∃ (j : Nat) (N : NS) (S B : Nat → Prop), j ≤ gs.length ∧ k = .int .i64 j ∧ TruI gs j N ∧ NetI wr p S B N ∧ Upd (New w) (New w) w wr S B) (fun k _ => gs.length - (intOf k).toNat)
  case atStart => exact ⟨0, _, S, B, Nat.zero_le _, rfl, ⟨by simp, by simp, by simp, by simp⟩, h2, v2⟩
  case round =>
    clear h2 v2 S B
    obtain ⟨j, N, S, B, hj, rfl, hI, hN, hu⟩ := hrel
    have hl1 := hI.1
    have hl2 := hI.2.1
    have hlen := hI.2.2.1
    by_cases hlt : j < gs.length
    · have hw := hu.new_below
      have hrw := hrow.below hw
      obtain ⟨b, off, rfl, _, hbl, q0, q1, q2, q3, q4⟩ := steps_at hrw hlt
      have hbs := (hbod _ (List.getElem_mem hlt)).below hw
      obtain ⟨Ab, cb, hbv⟩ := hbs.form
      rw [hbv] at q4 hbs
      clear hbv
      have hpw : w.heap.size ≤ p := (hu.2.1 p hN.1).elim id id
      have hN1 := hN.alloc (.cells #[.int .i64 gs[j].st.kind, .int .i64 gs[j].st.id, .int .i64 gs[j].st.fr, .int .i64 gs[j].st.rc, .slice Ab gs[j].st.body.length cb] 32)
      have hu1 := hu.alloc (.cells #[.int .i64 gs[j].st.kind, .int .i64 gs[j].st.id, .int .i64 gs[j].st.fr, .int .i64 gs[j].st.rc, .slice Ab gs[j].st.body.length cb] 32)
      have hbs1 := hbs.alloc (.cells #[.int .i64 gs[j].st.kind, .int .i64 gs[j].st.id, .int .i64 gs[j].st.fr, .int .i64 gs[j].st.rc, .slice Ab gs[j].st.body.length cb] 32)
      have hTp : ¬ (fun b => b < w.heap.size) p := by simp; omega
      have hsz1 : (N.l.length + 1) * 48 ≤ 140737488355328 := by omega
      have hsz0 : N.l.length * 48 ≤ 140737488355328 := by omega
      have hl3 : N.last ≤ 1000000000000000 := by omega
      by_cases k0 : gs[j].st.kind = 0
      · have t0 : (gs[j].st.kind == 0) = true := by rw [k0]; rfl
        have hh := hit_here hlt k0
        clear k0
        rcases N.add_cases gs[j].st.fr gs[j].st.rc gs[j].st.body with ⟨_, e0⟩ | ⟨_, e0⟩
        · have E0 := Lib.hid e0; clear e0
          go_wp2_with (go_at_call 10; refine (send_to hN1 E0.out hbs1 hTp hl1 hl3 hsz1).mono ?_; rintro e wx ⟨rfl, S', B', hx, ux⟩)
          go_roundw
          case rel => exact ⟨j + 1, N, S', B', by omega, by go_num, hI.next, hx, hu1.trans ux⟩
          case measure => simp [intOf]; omega
        · have E0 := Lib.hid e0; clear e0
          go_wp2_with (go_at_call 10; refine (send_to hN1 E0.out hbs1 hTp hl1 hl3 hsz1).mono ?_; rintro e wx ⟨rfl, S', B', hx, ux⟩)
          go_roundw
          case rel => exact ⟨j + 1, _, S', B', by omega, by go_num, hI.add (hh _), hx, hu1.trans ux⟩
          case measure => simp [intOf]; omega
      have t0 : (gs[j].st.kind == 0) = false := by simpa using k0
      clear k0
      by_cases k3 : gs[j].st.kind = 3
      · have t3 : (gs[j].st.kind == 3) = true := by rw [k3]; rfl
        clear k3
        rcases N.double_cases gs[j].st.id with ⟨_, e0⟩ | ⟨i, x, _, hi, hx0, e0⟩
        · have E0 := Lib.hid e0; clear e0
          go_wp2_with (go_at_call 16; refine (double_to hN1 E0.out hl1 hl3 hsz1).mono ?_; rintro e wx ⟨rfl, S', B', hx, ux⟩)
          go_roundw
          case rel => exact ⟨j + 1, N, S', B', by omega, by go_num, hI.next, hx, hu1.trans ux⟩
          case measure => simp [intOf]; omega
        · rcases N.add_cases x.fr x.rc x.body with ⟨_, e1⟩ | ⟨_, e1⟩
          · have E0 := Lib.hid (e0.trans e1); clear e0 e1
            go_wp2_with (go_at_call 16; refine (double_to hN1 E0.out hl1 hl3 hsz1).mono ?_; rintro e wx ⟨rfl, S', B', hx, ux⟩)
            go_roundw
            case rel => exact ⟨j + 1, N, S', B', by omega, by go_num, hI.next, hx, hu1.trans ux⟩
            case measure => simp [intOf]; omega
          · have E0 := Lib.hid (e0.trans e1); clear e0 e1
            have hx2 := Lib.hid (any_more (hI.2.2.2 x (List.mem_of_getElem? hx0)))
            clear hx0
            go_wp2_with (go_at_call 16; refine (double_to hN1 E0.out hl1 hl3 hsz1).mono ?_; rintro e wx ⟨rfl, S', B', hx, ux⟩)
            go_roundw
            case rel => exact ⟨j + 1, ⟨N.most, N.last + 1, N.l ++ [⟨N.last + 1, x.fr, x.rc, x.body⟩]⟩, S', B', by omega, by go_num, hI.add hx2.out, hx, hu1.trans ux⟩
            case measure => simp [intOf]; omega
      have t3 : (gs[j].st.kind == 3) = false := by simpa using k3
      clear k3
      by_cases k2 : gs[j].st.kind = 2
      · have t2 : (gs[j].st.kind == 2) = true := by rw [k2]; rfl
        clear k2
        rcases N.take_cases gs[j].st.id with ⟨_, e0⟩ | ⟨i, x, _, hi, hx0, e0⟩
        · have E0 := Lib.hid e0; clear e0
          go_wp2_with (go_at_call 15; refine (drop_to hN1 E0.out hsz0).mono ?_; rintro e wx ⟨rfl, hx, ux⟩)
          go_roundw
          case rel => exact ⟨j + 1, N, S, B, by omega, by go_num, hI.next, hx, hu1.trans ux⟩
          case measure => simp [intOf]; omega
        · have E0 := Lib.hid e0; clear e0 hx0
          go_wp2_with (go_at_call 15; refine (drop_to hN1 E0.out hsz0).mono ?_; rintro e wx ⟨rfl, hx, ux⟩)
          go_roundw
          case rel => exact ⟨j + 1, ⟨N.most, N.last, N.l.eraseIdx i⟩, S, B, by omega, by go_num, hI.take i, hx, hu1.trans ux⟩
          case measure => simp [intOf]; omega
      have t2 : (gs[j].st.kind == 2) = false := by simpa using k2
      clear k2
      by_cases k1 : gs[j].st.kind = 1
      · have t1 : (gs[j].st.kind == 1) = true := by rw [k1]; rfl
        clear k1
        rcases N.take_cases gs[j].st.id with ⟨_, e0⟩ | ⟨i, x, hat, hi, hx0, e0⟩
        · have E0 := Lib.hid e0; clear e0
          go_wp2_with (go_at_call 12; refine (take_to hN1 E0.out hsz0).mono ?_; rintro e wx ⟨bx, rfl, hbx, hx, ux⟩; obtain ⟨Ax, cx, rfl⟩ := hbx.form)
          go_roundw
          case rel => exact ⟨j + 1, N, S, B, by omega, by go_num, hI.next, hx.alloc _, (hu1.trans ux).alloc _⟩
          case measure => simp [intOf]; omega
        · have hid : (x.id == gs[j].st.id) = true := by simp [at_id hat hx0]
          have hany := Lib.hid (hI.2.2.2 x (List.mem_of_getElem? hx0))
          have E0 := Lib.hid e0; clear e0 hx0 hat
          go_wp2_with (go_at_call 12; refine (take_to hN1 E0.out hsz0).mono ?_; rintro e wx ⟨bx, rfl, hbx, hx, ux⟩; obtain ⟨Ax, cx, rfl⟩ := hbx.form
                       have kq := (Blk.new wr 32 #[.int .i64 gs[j].st.kind, .int .i64 gs[j].st.id, .int .i64 gs[j].st.fr, .int .i64 gs[j].st.rc, .slice Ab gs[j].st.body.length cb]).chg ux.1 (fun hb => by have := hN.lt _ (.inl hb); omega)
                       have kqc := kq.cell; have kql := kq.lt)
          have hn2 := hx.alloc (.cells #[.int .i64 x.id, .int .i64 x.fr, .int .i64 x.rc, .slice Ax x.body.length cx] 38)
          have hu2 := (hu1.trans ux).alloc (.cells #[.int .i64 x.id, .int .i64 x.fr, .int .i64 x.rc, .slice Ax x.body.length cx] 38)
          have hb2 := hbx.alloc (.cells #[.int .i64 x.id, .int .i64 x.fr, .int .i64 x.rc, .slice Ax x.body.length cx] 38)
          have ka := (Blk.new wx 38 #[.int .i64 x.id, .int .i64 x.fr, .int .i64 x.rc, .slice Ax x.body.length cx]).cell
          have hr2 := hrow.below hu2.new_below
          have hd2 := fun g hg => (hbod g hg).below hu2.new_below
          clear kq kqc kql hbx hx ux hN1 hu1 hbs1 hN hu hrw hrow hbs q0 q1 q2 q3 q4 hw hb1
          generalize hW0 : wx.alloc (.cells #[.int .i64 x.id, .int .i64 x.fr, .int .i64 x.rc, .slice Ax x.body.length cx] 38) = W0 at *
          clear hW0
          go_loopw [11, 12] (fun s i wr => ∃ (m n : Nat) (b : Bool), m ≤ j ∧ i = .int .i64 m ∧ s = .bool b ∧ Hid (seen gs x m = b) ∧ wr = W0.drewN n) (fun _ i _ => j - (intOf i).toNat)
          case atStart => exact ⟨0, 0, false, Nat.zero_le _, rfl, rfl, Lib.hid rfl, rfl⟩
          case round =>
            obtain ⟨m, n, sb, hm, rfl, rfl, hsb, hwi⟩ := hrel
            have ki : ∀ i, wr.cell? ⟨wx.heap.size, i, none⟩ = #[Value.int .i64 x.id, .int .i64 x.fr, .int .i64 x.rc, .slice Ax x.body.length cx][i]? := by rw [hwi]; exact ka
            have hri := hwi ▸ hr2.drewN n
            have hbi := hwi ▸ hb2.drewN n
            have hdi := fun g hg => hwi ▸ (hd2 g hg).drewN n
            have Hwi := Lib.hid hwi
            clear hwi
            by_cases hmj : m < j
            · have hml : m < gs.length := by omega
              obtain ⟨b2, off2, e2, _, _, r0, r1, r2, r3, r4⟩ := steps_at hri hml
              obtain ⟨rfl, rfl⟩ : b2 = b ∧ off2 = off := by injection e2 with e2; injection e2 with e1 e2; exact ⟨e1.symm, e2.symm⟩
              clear e2
              have hbm := hdi _ (List.getElem_mem hml)
              obtain ⟨Am, cm, ebm⟩ := hbm.form
              rw [ebm] at r4 hbm
              clear ebm
              have hm0 : (0 : Int) ≤ (m : Int) := Int.natCast_nonneg _
              have hm1 : (m : Int) < (gs.length : Int) := by omega
              have s1 := fun n => run_str (hbm.drewN n) Try.underlying30 Try.underlying5 Try.underlying9
              have s2 := fun n => run_str (hbi.drewN n) Try.underlying30 Try.underlying5 Try.underlying9
              have hsucc := Lib.hid (seen_succ gs x m hml)
              cases sb
              · by_cases c0 : (gs[m].st.kind == 0) = true
                · by_cases c1 : (gs[m].st.fr == x.fr) = true
                  · by_cases c2 : (gs[m].st.rc == x.rc) = true
                    · have htl := str_tl
                      go_wp2_with fail
                      go_quiet (fail)
                      go_wp2
                      go_roundw
                      case rel => exact ⟨m + 1, _, _, by omega, by go_num, rfl, Lib.hid (by rw [hsucc.out, hsb.out]; simp [hit, c0, c1, c2]), by rw [Hwi.out, World.drewN_drewN]⟩
                      case measure => simp [intOf]; omega
                    · have c2' : (gs[m].st.rc == x.rc) = false := by simpa using c2
                      clear c2
                      go_wp2_with fail
                      go_quiet (fail)
                      go_wp2
                      go_roundw
                      case rel => exact ⟨m + 1, _, _, by omega, by go_num, rfl, Lib.hid (by rw [hsucc.out, hsb.out]; simp [hit, c2']), by rw [Hwi.out, World.drewN_drewN]⟩
                      case measure => simp [intOf]; omega
                  · have c1' : (gs[m].st.fr == x.fr) = false := by simpa using c1
                    clear c1
                    go_wp2_with fail
                    go_quiet (fail)
                    go_wp2
                    go_roundw
                    case rel => exact ⟨m + 1, _, _, by omega, by go_num, rfl, Lib.hid (by rw [hsucc.out, hsb.out]; simp [hit, c1']), by rw [Hwi.out, World.drewN_drewN]⟩
                    case measure => simp [intOf]; omega
                · have c0' : (gs[m].st.kind == 0) = false := by simpa using c0
                  clear c0
                  go_wp2_with fail
                  go_quiet (fail)
                  go_wp2
                  go_roundw
                  case rel => exact ⟨m + 1, _, _, by omega, by go_num, rfl, Lib.hid (by rw [hsucc.out, hsb.out]; simp [hit, c0']), by rw [Hwi.out, World.drewN_drewN]⟩
                  case measure => simp [intOf]; omega
              · go_wp2_with fail
                go_quiet (fail)
                go_wp2
                go_roundw
                case rel => exact ⟨m + 1, _, true, by omega, by go_num, rfl, Lib.hid (by rw [hsucc.out, hsb.out]; rfl), by rw [Hwi.out, World.drewN_drewN]⟩
                case measure => simp [intOf]; omega
            · obtain rfl : m = j := by omega
              obtain rfl : sb = true := by rw [← hsb.out]; exact hany.out
              go_wp2_with fail
              go_roundw
              case rel => exact ⟨m + 1, ⟨N.most, N.last, N.l.eraseIdx i⟩, S, B, by omega, by go_num, hI.take i, Hwi.out ▸ (hn2.keep (w' := W0.drewN n) (Nat.le_refl _) (fun _ _ => rfl)), Hwi.out ▸ hu2.drewN n⟩
              case measure => simp [intOf]; omega
      have t1 : (gs[j].st.kind == 1) = false := by simpa using k1
      clear k1
      go_wp2_with fail
      go_roundw
      case rel => exact ⟨j + 1, N, S, B, by omega, by go_num, hI.next, hN1, hu1⟩
      case measure => simp [intOf]; omega
    · go_wp2
      go_ret
      exact ⟨rfl, hu.new_below⟩

end Go.Proofs.Ythlebfhljmcedaa
